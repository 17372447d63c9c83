import Derived.Test.YtpjpnppoejnafaaMFnExactSelectorText1
import Derived.Test.YtpjpnppoejnafaaMFnExactSelectorText2
import Derived.Test.YtpjpnppoejnafaaMFnExactSelectorText3
import Derived.Test.YtpjpnppoejnafaaMFnExactSelectorText4
import Derived.Test.YtpjpnppoejnafaaShelf
/- G54 -/
-- Laid by wip/g/gprint.py out of the translation, by the kit's print program. Lean checks it.
namespace Go.Proofs.Ytpjpnppoejnafaa.G
open Go.RowKit Go.Proofs.YtpjpnppoejnafaaW.PrintWords Go.Proofs.YtpjpnppoejnafaaW.PrintLast Go.Proofs.YtpjpnppoejnafaaW.PrintMore
attribute [local go_sem] max2_int min2_int max_two min_two max_three min_three max_four min_four   -- for this text's walks alone
set_option linter.unusedVariables false
set_option linter.unusedSimpArgs false

/-! ### spec_l2Term: function 54 -/
mutual
def spec_l2Term.l0 : Nat → Int → Int → Int → ByteArray → List ByteArray → Option (Bool)
  | 0, _, _, _, _, _ => none
  | k + 1, x3, x4, x286000, x286001, x286002 => if x4 < x3 then (if 0 ≤ x4 then (if x4 < (x286002.length : Int) then ((spec_NameOk.f k (rdOf ByteArray.empty x286002 x4)).bind fun t287 => (if t287 = true then (if x4 > 0 then (if 0 ≤ (wrap64 (x4 - 1)) then (if (wrap64 (x4 - 1)) < (x286002.length : Int) then (if ((Op.bytesLess ((rdOf ByteArray.empty x286002 (wrap64 (x4 - 1))).toList) ((rdOf ByteArray.empty x286002 x4).toList)) = true) then (spec_l2Term.l0 k x3 (wrap64 (x4 + 1)) x286000 x286001 x286002) else (some false)) else (none)) else (none)) else (spec_l2Term.l0 k x3 (wrap64 (x4 + 1)) x286000 x286001 x286002)) else (some false))) else (none)) else (none)) else ((spec_NameOk.f k x286001).bind fun t290 => (if t290 = true then (if x286000 = 1 then (spec_l2Term.j1 k x3 x286000 (x286000 == 1)) else (spec_l2Term.j1 k x3 x286000 (x286000 == 2))) else (some false)))
def spec_l2Term.j1 : Nat → Int → Int → Bool → Option (Bool)
  | 0, _, _, _ => none
  | k + 1, x3, x43, x44 => if x44 = true then (some (x3 == 1)) else (if x43 = 3 then ((spec_l1In.f x3 1 6).bind fun t291 => (some t291)) else (if x43 = 4 then (some (x3 == 0)) else (if x43 = 5 then (some (x3 == 0)) else (some false))))
end
def spec_l2Term.f (k : Nat) (a0_0 : Int) (a0_1 : ByteArray) (l0_2 : List ByteArray) : Option (Bool) := spec_l2Term.l0 k (l0_2.length : Int) 0 a0_0 a0_1 l0_2
theorem spec_l2Term.mono_l : ∀ k, (∀ y0 y1 y2 y3 y4, LeO (spec_l2Term.l0 k y0 y1 y2 y3 y4) (spec_l2Term.l0 (k + 1) y0 y1 y2 y3 y4)) ∧ (∀ y0 y1 y2, LeO (spec_l2Term.j1 k y0 y1 y2) (spec_l2Term.j1 (k + 1) y0 y1 y2))
  | 0 => ⟨fun _ _ _ _ _ r h => by simp [spec_l2Term.l0] at h, fun _ _ _ r h => by simp [spec_l2Term.j1] at h⟩
  | k + 1 => by
    obtain ⟨ih0, ih1⟩ := spec_l2Term.mono_l k
    refine ⟨?_, ?_⟩
    · intro y0 y1 y2 y3 y4
      unfold spec_l2Term.l0
      repeat' first
      | (with_reducible exact ih0 _ _ _ _ _)
      | (with_reducible exact ih1 _ _ _)
      | (with_reducible exact spec_NameOk.mono _ _)
      | (with_reducible exact LeO.refl _)
      | (with_reducible exact LeO.none _)
      | (with_reducible refine LeO.ite ?_ ?_)
      | (with_reducible refine LeO.bind ?_ (fun _ => ?_))
      | exact ih0 _ _ _ _ _
      | exact ih1 _ _ _
      | exact spec_NameOk.mono _ _
      | exact LeO.none _
      | refine LeO.ite ?_ ?_
      | refine LeO.bind ?_ (fun _ => ?_)
    · intro y0 y1 y2
      unfold spec_l2Term.j1
      repeat' first
      | (with_reducible exact ih0 _ _ _ _ _)
      | (with_reducible exact ih1 _ _ _)
      | (with_reducible exact spec_NameOk.mono _ _)
      | (with_reducible exact LeO.refl _)
      | (with_reducible exact LeO.none _)
      | (with_reducible refine LeO.ite ?_ ?_)
      | (with_reducible refine LeO.bind ?_ (fun _ => ?_))
      | exact ih0 _ _ _ _ _
      | exact ih1 _ _ _
      | exact spec_NameOk.mono _ _
      | exact LeO.none _
      | refine LeO.ite ?_ ?_
      | refine LeO.bind ?_ (fun _ => ?_)
theorem spec_l2Term.mono : ∀ a0 a1 a2 k, LeO (spec_l2Term.f k a0 a1 a2) (spec_l2Term.f (k + 1) a0 a1 a2) := by
  intro a0 a1 a2 k
  obtain ⟨ih0, ih1⟩ := spec_l2Term.mono_l k
  unfold spec_l2Term.f
  repeat' first
      | (with_reducible exact ih0 _ _ _ _ _)
      | (with_reducible exact ih1 _ _ _)
      | (with_reducible exact spec_NameOk.mono _ _)
      | (with_reducible exact LeO.refl _)
      | (with_reducible exact LeO.none _)
      | (with_reducible refine LeO.ite ?_ ?_)
      | (with_reducible refine LeO.bind ?_ (fun _ => ?_))
      | exact ih0 _ _ _ _ _
      | exact ih1 _ _ _
      | exact spec_NameOk.mono _ _
      | exact LeO.none _
      | refine LeO.ite ?_ ?_
      | refine LeO.bind ?_ (fun _ => ?_)
set_option maxHeartbeats 8000000 in
set_option maxRecDepth 100000 in
theorem spec_l2Term.calls (k : Nat) (a0_0 : Int) (a0_1 : ByteArray) (A0_2 : Option Addr) (c0_2 : Nat) (l0_2 : List ByteArray) (r : Bool) (w : World) (hr0_2 : Kd.C Kd.string w A0_2 l0_2.length l0_2) (hc0_2 : l0_2.length ≤ c0_2) (h : spec_l2Term.f k a0_0 a0_1 l0_2 = some r) :
    Calls Try.prog 54 #[.agg #[.int .i64 a0_0, .string a0_1, .slice A0_2 l0_2.length c0_2]] w fun e w' => e = .returned (.bool r) ∧ Below w.heap.size w w' := by
  have hu52 := Try.underlying52
  have HR0_2 := Aside0.mk hr0_2
  have HC0_2 := Aside0.mk hc0_2
  clear hr0_2 hc0_2
  have HB := Aside0.mk (Below.refl w.heap.size w)
  have H : (spec_l2Term.l0 k (l0_2.length : Int) 0 a0_0 a0_1 l0_2) = some r := h
  clear h
  have H' := Aside0.mk H
  clear H
  go_enter Try.func54, Try.ntmps54
  go_wp2_with (first | ((with_reducible refine gate_dst (N := 1) rfl ?_); refine box_event ?hg (N := 1) ?hd (cs := #[.int .i64 a0_0, .string a0_1, .slice A0_2 l0_2.length c0_2]) (t := 52) ?hr ?_; (case hd => rfl); (case hg => rfl); (case hr => first | (go_simp; done) | (go_simp; rfl)); intro gb285 hg w2 hbox hb; have n0_ := Aside0.mk (below_step (by repeat (first | (with_reducible first | exact HB.out | apply below_alloc | apply pw_below_drewN | apply below_drew1) | exact HB.out)) hb); have n1_ := Aside0.mk (hbox); have n2_ := Aside0.mk ((by rw [hg]; exact (below_size (by repeat (first | (with_reducible first | exact HB.out | apply below_alloc | apply pw_below_drewN | apply below_drew1) | exact HB.out))) : w.heap.size ≤ gb285)); have n3_ := Aside0.mk ((by rw [hg]; exact (below_size (by repeat (first | (with_reducible first | exact HB.out | apply below_alloc | apply pw_below_drewN | apply below_drew1) | exact HB.out))) : w.heap.size ≤ gb285)); clear HB; have HB := n0_; have BK285 := n1_; have GW285 := n2_; have GE285 := n3_; clear n0_ n1_ n2_ n3_; clear hb hbox hg; have hcz3_0 : w2.cell? ⟨gb285, 0, none⟩ = some (.int .i64 a0_0) := (blk_cell BK285.out 0).trans rfl; have hcz3_1 : w2.cell? ⟨gb285, 1, none⟩ = some (.string a0_1) := (blk_cell BK285.out 1).trans rfl; have hcz3_2 : w2.cell? ⟨gb285, 2, none⟩ = some (.slice A0_2 l0_2.length c0_2) := (blk_cell BK285.out 2).trans rfl; have hfz3_0 := blk_frozen BK285.out 0; have hfz3_1 := blk_frozen BK285.out 1; have hfz3_2 := blk_frozen BK285.out 2))
  repeat (go_quiet (first | ((with_reducible refine gate_dst (N := 1) rfl ?_); refine box_event ?hg (N := 1) ?hd (cs := #[.int .i64 a0_0, .string a0_1, .slice A0_2 l0_2.length c0_2]) (t := 52) ?hr ?_; (case hd => rfl); (case hg => rfl); (case hr => first | (go_simp; done) | (go_simp; rfl)); intro gb285 hg w2 hbox hb; have n0_ := Aside0.mk (below_step (by repeat (first | (with_reducible first | exact HB.out | apply below_alloc | apply pw_below_drewN | apply below_drew1) | exact HB.out)) hb); have n1_ := Aside0.mk (hbox); have n2_ := Aside0.mk ((by rw [hg]; exact (below_size (by repeat (first | (with_reducible first | exact HB.out | apply below_alloc | apply pw_below_drewN | apply below_drew1) | exact HB.out))) : w.heap.size ≤ gb285)); have n3_ := Aside0.mk ((by rw [hg]; exact (below_size (by repeat (first | (with_reducible first | exact HB.out | apply below_alloc | apply pw_below_drewN | apply below_drew1) | exact HB.out))) : w.heap.size ≤ gb285)); clear HB; have HB := n0_; have BK285 := n1_; have GW285 := n2_; have GE285 := n3_; clear n0_ n1_ n2_ n3_; clear hb hbox hg; have hcz3_0 : w2.cell? ⟨gb285, 0, none⟩ = some (.int .i64 a0_0) := (blk_cell BK285.out 0).trans rfl; have hcz3_1 : w2.cell? ⟨gb285, 1, none⟩ = some (.string a0_1) := (blk_cell BK285.out 1).trans rfl; have hcz3_2 : w2.cell? ⟨gb285, 2, none⟩ = some (.slice A0_2 l0_2.length c0_2) := (blk_cell BK285.out 2).trans rfl; have hfz3_0 := blk_frozen BK285.out 0; have hfz3_1 := blk_frozen BK285.out 1; have hfz3_2 := blk_frozen BK285.out 2)); try go_wp2_with (first | ((with_reducible refine gate_dst (N := 1) rfl ?_); refine box_event ?hg (N := 1) ?hd (cs := #[.int .i64 a0_0, .string a0_1, .slice A0_2 l0_2.length c0_2]) (t := 52) ?hr ?_; (case hd => rfl); (case hg => rfl); (case hr => first | (go_simp; done) | (go_simp; rfl)); intro gb285 hg w2 hbox hb; have n0_ := Aside0.mk (below_step (by repeat (first | (with_reducible first | exact HB.out | apply below_alloc | apply pw_below_drewN | apply below_drew1) | exact HB.out)) hb); have n1_ := Aside0.mk (hbox); have n2_ := Aside0.mk ((by rw [hg]; exact (below_size (by repeat (first | (with_reducible first | exact HB.out | apply below_alloc | apply pw_below_drewN | apply below_drew1) | exact HB.out))) : w.heap.size ≤ gb285)); have n3_ := Aside0.mk ((by rw [hg]; exact (below_size (by repeat (first | (with_reducible first | exact HB.out | apply below_alloc | apply pw_below_drewN | apply below_drew1) | exact HB.out))) : w.heap.size ≤ gb285)); clear HB; have HB := n0_; have BK285 := n1_; have GW285 := n2_; have GE285 := n3_; clear n0_ n1_ n2_ n3_; clear hb hbox hg; have hcz3_0 : w2.cell? ⟨gb285, 0, none⟩ = some (.int .i64 a0_0) := (blk_cell BK285.out 0).trans rfl; have hcz3_1 : w2.cell? ⟨gb285, 1, none⟩ = some (.string a0_1) := (blk_cell BK285.out 1).trans rfl; have hcz3_2 : w2.cell? ⟨gb285, 2, none⟩ = some (.slice A0_2 l0_2.length c0_2) := (blk_cell BK285.out 2).trans rfl; have hfz3_0 := blk_frozen BK285.out 0; have hfz3_1 := blk_frozen BK285.out 1; have hfz3_2 := blk_frozen BK285.out 2)))
  go_loopg [4] k (fun kq v4 w' => ∃ (x4_1 : Int), v4 = .int .i64 x4_1 ∧ Aside0 (spec_l2Term.l0 kq (l0_2.length : Int) x4_1 a0_0 a0_1 l0_2 = some r) ∧ Aside0 (kq ≤ k) ∧ Aside0 (w'.heap[gb285]? = some (.cells #[.int .i64 a0_0, .string a0_1, (.slice A0_2 l0_2.length c0_2)] 52 (0, 0))) ∧ Aside0 (Below w.heap.size w w'))
  case atStart => exact ⟨(0), (by first | rfl | (simp; done) | (simp [*]; done)), H', ⟨Nat.le_refl _⟩, ⟨by (with_reducible repeat (first | refine blk_drewN ?_ _ | refine blk_drew ?_ | refine blk_alloc ?_ _)); exact BK285.out⟩, ⟨by repeat (first | (with_reducible first | exact HB.out | apply below_alloc | apply pw_below_drewN | apply below_drew1 | refine below_set ?_ GE285.out) | exact HB.out)⟩⟩
  case round =>
    clear H'
    try clear p2
    try clear hcz3_0
    try clear hcz3_1
    try clear hcz3_2
    try clear hfz3_0
    try clear hfz3_1
    try clear hfz3_2
    obtain ⟨x4_1, rfl, HA, HK1, BK285, HB⟩ := hrel
    cases gk with
    | zero => exact absurd HA.out (by simp [spec_l2Term.l0])
    | succ k1 =>
      have H := HA.out
      clear HA
      simp only [spec_l2Term.l0] at H
      by_cases c4 : x4_1 < (l0_2.length : Int)
      · rw [if_pos c4] at H
        have c4b0 : decide (x4_1 < (l0_2.length : Int)) = true := decide_eq_true c4
        clear c4
        by_cases c5 : 0 ≤ x4_1
        · rw [if_pos c5] at H
          have c5b0 : decide (0 ≤ x4_1) = true := decide_eq_true c5
          clear c5
          by_cases c6 : x4_1 < (l0_2.length : Int)
          · rw [if_pos c6] at H
            have c6b0 : decide (x4_1 < (l0_2.length : Int)) = true := decide_eq_true c6
            clear c6
            replace H := Option.bind_eq_some_iff.mp H
            obtain ⟨t287, A70, H⟩ := H
            replace H : (if t287 = true then (if x4_1 > 0 then (if 0 ≤ (wrap64 (x4_1 - 1)) then (if (wrap64 (x4_1 - 1)) < (l0_2.length : Int) then (if ((Op.bytesLess ((rdOf ByteArray.empty l0_2 (wrap64 (x4_1 - 1))).toList) ((rdOf ByteArray.empty l0_2 x4_1).toList)) = true) then (spec_l2Term.l0 k1 (l0_2.length : Int) (wrap64 (x4_1 + 1)) a0_0 a0_1 l0_2) else (some false)) else (none)) else (none)) else (spec_l2Term.l0 k1 (l0_2.length : Int) (wrap64 (x4_1 + 1)) a0_0 a0_1 l0_2)) else (some false)) = some r := H
            have A7 := Aside0.mk A70
            clear A70
            by_cases c8 : t287 = true
            · subst c8
              have H1 : (if x4_1 > 0 then (if 0 ≤ (wrap64 (x4_1 - 1)) then (if (wrap64 (x4_1 - 1)) < (l0_2.length : Int) then (if ((Op.bytesLess ((rdOf ByteArray.empty l0_2 (wrap64 (x4_1 - 1))).toList) ((rdOf ByteArray.empty l0_2 x4_1).toList)) = true) then (spec_l2Term.l0 k1 (l0_2.length : Int) (wrap64 (x4_1 + 1)) a0_0 a0_1 l0_2) else (some false)) else (none)) else (none)) else (spec_l2Term.l0 k1 (l0_2.length : Int) (wrap64 (x4_1 + 1)) a0_0 a0_1 l0_2)) = some r := by rw [if_pos rfl] at H; exact H
              clear H
              have H := H1
              clear H1
              by_cases c9 : x4_1 > 0
              · rw [if_pos c9] at H
                have c9b0 : decide (0 < x4_1) = true := decide_eq_true c9
                clear c9
                obtain ⟨ji10, hji10⟩ : ∃ j_ : Int, (wrap64 (x4_1 - 1)) = j_ := ⟨_, rfl⟩
                replace H : (if 0 ≤ (ji10) then (if (ji10) < (l0_2.length : Int) then (if ((Op.bytesLess ((rdOf ByteArray.empty l0_2 (ji10)).toList) ((rdOf ByteArray.empty l0_2 x4_1).toList)) = true) then (spec_l2Term.l0 k1 (l0_2.length : Int) (wrap64 (x4_1 + 1)) a0_0 a0_1 l0_2) else (some false)) else (none)) else (none)) = some r := by first | (rw [hji10] at H; exact H) | (simp only [hji10] at H ⊢; exact H)
                (try rw [hji10] at A7)
                have hji10w : (IntKind.i64.wrap (x4_1 - 1)) = ji10 := (i64_w _).trans hji10
                by_cases c11 : 0 ≤ (ji10)
                · rw [if_pos c11] at H
                  have c11b0 : decide (0 ≤ (ji10)) = true := decide_eq_true c11
                  clear c11
                  by_cases c12 : (ji10) < (l0_2.length : Int)
                  · rw [if_pos c12] at H
                    have c12b0 : decide ((ji10) < (l0_2.length : Int)) = true := decide_eq_true c12
                    clear c12
                    by_cases c13 : ((Op.bytesLess ((rdOf ByteArray.empty l0_2 (ji10)).toList) ((rdOf ByteArray.empty l0_2 x4_1).toList)) = true)
                    · rw [if_pos c13] at H
                      have c13b0 : (Op.bytesLess ((rdOf ByteArray.empty l0_2 (ji10)).toList) ((rdOf ByteArray.empty l0_2 x4_1).toList)) = true := c13
                      clear c13
                      have H' := Aside0.mk H
                      clear H
                      have hcz14_0 : wr.cell? ⟨gb285, 0, none⟩ = some (.int .i64 a0_0) := (blk_cell BK285.out 0).trans rfl
                      have hcz14_1 : wr.cell? ⟨gb285, 1, none⟩ = some (.string a0_1) := (blk_cell BK285.out 1).trans rfl
                      have hcz14_2 : wr.cell? ⟨gb285, 2, none⟩ = some (.slice A0_2 l0_2.length c0_2) := (blk_cell BK285.out 2).trans rfl
                      have hfz14_0 := blk_frozen BK285.out 0
                      have hfz14_1 := blk_frozen BK285.out 1
                      have hfz14_2 := blk_frozen BK285.out 2
                      have p286 : 0 ≤ (x4_1 : Int) := of_decide_eq_true (by first | (with_reducible assumption) | assumption)
                      have q286 : x4_1 < (l0_2.length : Int) := of_decide_eq_true (by first | (with_reducible assumption) | assumption)
                      obtain ⟨ad286, e286, hx286_0⟩ := Kd.at_string HR0_2.out x4_1 p286 q286
                      cases e286
                      replace hx286_0 := (HB.out.cell (World.block_lt_of_cell? w _ hx286_0)).trans hx286_0
                      replace p286 := eq_true p286
                      replace q286 := eq_true q286
                      go_wp2_with (first | (go_at_call 46; (with_reducible refine (spec_NameOk.calls k1 (rdOf ByteArray.empty l0_2 x4_1) true _ A7.out).mono ?_); rintro e w' ⟨rfl, ⟨nd, rfl⟩⟩; (try first | exact ⟨rfl, _, World.drewN_drewN _ _ _⟩ | exact ⟨rfl, _, Eq.trans (World.drewN_drewN _ _ _) (congrArg (World.drewN _) (Nat.add_assoc _ _ _))⟩); have p288 : 0 ≤ ((ji10) : Int) := of_decide_eq_true (by first | (with_reducible assumption) | assumption); have q288 : (ji10) < (l0_2.length : Int) := of_decide_eq_true (by first | (with_reducible assumption) | assumption); obtain ⟨ad288, e288, hx288_0⟩ := Kd.at_string HR0_2.out (ji10) p288 q288; obtain rfl : ad286 = ad288 := (by injection e288); replace hx288_0 := (HB.out.cell (World.block_lt_of_cell? w _ hx288_0)).trans hx288_0; replace p288 := eq_true p288; replace q288 := eq_true q288; have p289 : 0 ≤ (x4_1 : Int) := of_decide_eq_true (by first | (with_reducible assumption) | assumption); have q289 : x4_1 < (l0_2.length : Int) := of_decide_eq_true (by first | (with_reducible assumption) | assumption); obtain ⟨ad289, e289, hx289_0⟩ := Kd.at_string HR0_2.out x4_1 p289 q289; obtain rfl : ad286 = ad289 := (by injection e289); replace hx289_0 := (HB.out.cell (World.block_lt_of_cell? w _ hx289_0)).trans hx289_0; replace p289 := eq_true p289; replace q289 := eq_true q289))
                      repeat (go_quiet (first | (go_at_call 46; (with_reducible refine (spec_NameOk.calls k1 (rdOf ByteArray.empty l0_2 x4_1) true _ A7.out).mono ?_); rintro e w' ⟨rfl, ⟨nd, rfl⟩⟩; (try first | exact ⟨rfl, _, World.drewN_drewN _ _ _⟩ | exact ⟨rfl, _, Eq.trans (World.drewN_drewN _ _ _) (congrArg (World.drewN _) (Nat.add_assoc _ _ _))⟩); have p288 : 0 ≤ ((ji10) : Int) := of_decide_eq_true (by first | (with_reducible assumption) | assumption); have q288 : (ji10) < (l0_2.length : Int) := of_decide_eq_true (by first | (with_reducible assumption) | assumption); obtain ⟨ad288, e288, hx288_0⟩ := Kd.at_string HR0_2.out (ji10) p288 q288; obtain rfl : ad286 = ad288 := (by injection e288); replace hx288_0 := (HB.out.cell (World.block_lt_of_cell? w _ hx288_0)).trans hx288_0; replace p288 := eq_true p288; replace q288 := eq_true q288; have p289 : 0 ≤ (x4_1 : Int) := of_decide_eq_true (by first | (with_reducible assumption) | assumption); have q289 : x4_1 < (l0_2.length : Int) := of_decide_eq_true (by first | (with_reducible assumption) | assumption); obtain ⟨ad289, e289, hx289_0⟩ := Kd.at_string HR0_2.out x4_1 p289 q289; obtain rfl : ad286 = ad289 := (by injection e289); replace hx289_0 := (HB.out.cell (World.block_lt_of_cell? w _ hx289_0)).trans hx289_0; replace p289 := eq_true p289; replace q289 := eq_true q289)); try go_wp2_with (first | (go_at_call 46; (with_reducible refine (spec_NameOk.calls k1 (rdOf ByteArray.empty l0_2 x4_1) true _ A7.out).mono ?_); rintro e w' ⟨rfl, ⟨nd, rfl⟩⟩; (try first | exact ⟨rfl, _, World.drewN_drewN _ _ _⟩ | exact ⟨rfl, _, Eq.trans (World.drewN_drewN _ _ _) (congrArg (World.drewN _) (Nat.add_assoc _ _ _))⟩); have p288 : 0 ≤ ((ji10) : Int) := of_decide_eq_true (by first | (with_reducible assumption) | assumption); have q288 : (ji10) < (l0_2.length : Int) := of_decide_eq_true (by first | (with_reducible assumption) | assumption); obtain ⟨ad288, e288, hx288_0⟩ := Kd.at_string HR0_2.out (ji10) p288 q288; obtain rfl : ad286 = ad288 := (by injection e288); replace hx288_0 := (HB.out.cell (World.block_lt_of_cell? w _ hx288_0)).trans hx288_0; replace p288 := eq_true p288; replace q288 := eq_true q288; have p289 : 0 ≤ (x4_1 : Int) := of_decide_eq_true (by first | (with_reducible assumption) | assumption); have q289 : x4_1 < (l0_2.length : Int) := of_decide_eq_true (by first | (with_reducible assumption) | assumption); obtain ⟨ad289, e289, hx289_0⟩ := Kd.at_string HR0_2.out x4_1 p289 q289; obtain rfl : ad286 = ad289 := (by injection e289); replace hx289_0 := (HB.out.cell (World.block_lt_of_cell? w _ hx289_0)).trans hx289_0; replace p289 := eq_true p289; replace q289 := eq_true q289)))
                      go_roundg k1
                      case measure => have := HK1.out; omega
                      case rel => exact ⟨(wrap64 (x4_1 + 1)), (by first | rfl | (simp; done) | (simp [*]; done)), H', ⟨by have := HK1.out; omega⟩, ⟨by (with_reducible repeat (first | refine blk_drewN ?_ _ | refine blk_drew ?_ | refine blk_alloc ?_ _)); exact BK285.out⟩, ⟨by repeat (first | (with_reducible first | exact HB.out | apply below_alloc | apply pw_below_drewN | apply below_drew1 | refine below_set ?_ GE285.out) | exact HB.out)⟩⟩
                    · rw [if_neg c13] at H
                      have c13b0 : (Op.bytesLess ((rdOf ByteArray.empty l0_2 (ji10)).toList) ((rdOf ByteArray.empty l0_2 x4_1).toList)) = false := by simpa using c13
                      clear c13
                      obtain rfl := Option.some.inj H
                      have hcz15_0 : wr.cell? ⟨gb285, 0, none⟩ = some (.int .i64 a0_0) := (blk_cell BK285.out 0).trans rfl
                      have hcz15_1 : wr.cell? ⟨gb285, 1, none⟩ = some (.string a0_1) := (blk_cell BK285.out 1).trans rfl
                      have hcz15_2 : wr.cell? ⟨gb285, 2, none⟩ = some (.slice A0_2 l0_2.length c0_2) := (blk_cell BK285.out 2).trans rfl
                      have hfz15_0 := blk_frozen BK285.out 0
                      have hfz15_1 := blk_frozen BK285.out 1
                      have hfz15_2 := blk_frozen BK285.out 2
                      have p286 : 0 ≤ (x4_1 : Int) := of_decide_eq_true (by first | (with_reducible assumption) | assumption)
                      have q286 : x4_1 < (l0_2.length : Int) := of_decide_eq_true (by first | (with_reducible assumption) | assumption)
                      obtain ⟨ad286, e286, hx286_0⟩ := Kd.at_string HR0_2.out x4_1 p286 q286
                      cases e286
                      replace hx286_0 := (HB.out.cell (World.block_lt_of_cell? w _ hx286_0)).trans hx286_0
                      replace p286 := eq_true p286
                      replace q286 := eq_true q286
                      go_wp2_with (first | (go_at_call 46; (with_reducible refine (spec_NameOk.calls k1 (rdOf ByteArray.empty l0_2 x4_1) true _ A7.out).mono ?_); rintro e w' ⟨rfl, ⟨nd, rfl⟩⟩; (try first | exact ⟨rfl, _, World.drewN_drewN _ _ _⟩ | exact ⟨rfl, _, Eq.trans (World.drewN_drewN _ _ _) (congrArg (World.drewN _) (Nat.add_assoc _ _ _))⟩); have p288 : 0 ≤ ((ji10) : Int) := of_decide_eq_true (by first | (with_reducible assumption) | assumption); have q288 : (ji10) < (l0_2.length : Int) := of_decide_eq_true (by first | (with_reducible assumption) | assumption); obtain ⟨ad288, e288, hx288_0⟩ := Kd.at_string HR0_2.out (ji10) p288 q288; obtain rfl : ad286 = ad288 := (by injection e288); replace hx288_0 := (HB.out.cell (World.block_lt_of_cell? w _ hx288_0)).trans hx288_0; replace p288 := eq_true p288; replace q288 := eq_true q288; have p289 : 0 ≤ (x4_1 : Int) := of_decide_eq_true (by first | (with_reducible assumption) | assumption); have q289 : x4_1 < (l0_2.length : Int) := of_decide_eq_true (by first | (with_reducible assumption) | assumption); obtain ⟨ad289, e289, hx289_0⟩ := Kd.at_string HR0_2.out x4_1 p289 q289; obtain rfl : ad286 = ad289 := (by injection e289); replace hx289_0 := (HB.out.cell (World.block_lt_of_cell? w _ hx289_0)).trans hx289_0; replace p289 := eq_true p289; replace q289 := eq_true q289))
                      repeat (go_quiet (first | (go_at_call 46; (with_reducible refine (spec_NameOk.calls k1 (rdOf ByteArray.empty l0_2 x4_1) true _ A7.out).mono ?_); rintro e w' ⟨rfl, ⟨nd, rfl⟩⟩; (try first | exact ⟨rfl, _, World.drewN_drewN _ _ _⟩ | exact ⟨rfl, _, Eq.trans (World.drewN_drewN _ _ _) (congrArg (World.drewN _) (Nat.add_assoc _ _ _))⟩); have p288 : 0 ≤ ((ji10) : Int) := of_decide_eq_true (by first | (with_reducible assumption) | assumption); have q288 : (ji10) < (l0_2.length : Int) := of_decide_eq_true (by first | (with_reducible assumption) | assumption); obtain ⟨ad288, e288, hx288_0⟩ := Kd.at_string HR0_2.out (ji10) p288 q288; obtain rfl : ad286 = ad288 := (by injection e288); replace hx288_0 := (HB.out.cell (World.block_lt_of_cell? w _ hx288_0)).trans hx288_0; replace p288 := eq_true p288; replace q288 := eq_true q288; have p289 : 0 ≤ (x4_1 : Int) := of_decide_eq_true (by first | (with_reducible assumption) | assumption); have q289 : x4_1 < (l0_2.length : Int) := of_decide_eq_true (by first | (with_reducible assumption) | assumption); obtain ⟨ad289, e289, hx289_0⟩ := Kd.at_string HR0_2.out x4_1 p289 q289; obtain rfl : ad286 = ad289 := (by injection e289); replace hx289_0 := (HB.out.cell (World.block_lt_of_cell? w _ hx289_0)).trans hx289_0; replace p289 := eq_true p289; replace q289 := eq_true q289)); try go_wp2_with (first | (go_at_call 46; (with_reducible refine (spec_NameOk.calls k1 (rdOf ByteArray.empty l0_2 x4_1) true _ A7.out).mono ?_); rintro e w' ⟨rfl, ⟨nd, rfl⟩⟩; (try first | exact ⟨rfl, _, World.drewN_drewN _ _ _⟩ | exact ⟨rfl, _, Eq.trans (World.drewN_drewN _ _ _) (congrArg (World.drewN _) (Nat.add_assoc _ _ _))⟩); have p288 : 0 ≤ ((ji10) : Int) := of_decide_eq_true (by first | (with_reducible assumption) | assumption); have q288 : (ji10) < (l0_2.length : Int) := of_decide_eq_true (by first | (with_reducible assumption) | assumption); obtain ⟨ad288, e288, hx288_0⟩ := Kd.at_string HR0_2.out (ji10) p288 q288; obtain rfl : ad286 = ad288 := (by injection e288); replace hx288_0 := (HB.out.cell (World.block_lt_of_cell? w _ hx288_0)).trans hx288_0; replace p288 := eq_true p288; replace q288 := eq_true q288; have p289 : 0 ≤ (x4_1 : Int) := of_decide_eq_true (by first | (with_reducible assumption) | assumption); have q289 : x4_1 < (l0_2.length : Int) := of_decide_eq_true (by first | (with_reducible assumption) | assumption); obtain ⟨ad289, e289, hx289_0⟩ := Kd.at_string HR0_2.out x4_1 p289 q289; obtain rfl : ad286 = ad289 := (by injection e289); replace hx289_0 := (HB.out.cell (World.block_lt_of_cell? w _ hx289_0)).trans hx289_0; replace p289 := eq_true p289; replace q289 := eq_true q289)))
                      go_ret
                      exact ⟨by first | rfl | (simp [errW_none, errW_some] <;> rfl) | (simp only [← hji10]; first | rfl | (simp [errW_none, errW_some] <;> rfl)) | (simp [*, errW_none, errW_some] <;> rfl), by repeat (first | (with_reducible first | exact HB.out | apply below_alloc | apply pw_below_drewN | apply below_drew1 | refine below_set ?_ GE285.out) | exact HB.out)⟩
                  · rw [if_neg c12] at H
                    exact absurd H (by simp)
                · rw [if_neg c11] at H
                  exact absurd H (by simp)
              · rw [if_neg c9] at H
                have c9b0 : decide (0 < x4_1) = false := decide_eq_false c9
                clear c9
                have H' := Aside0.mk H
                clear H
                have hcz16_0 : wr.cell? ⟨gb285, 0, none⟩ = some (.int .i64 a0_0) := (blk_cell BK285.out 0).trans rfl
                have hcz16_1 : wr.cell? ⟨gb285, 1, none⟩ = some (.string a0_1) := (blk_cell BK285.out 1).trans rfl
                have hcz16_2 : wr.cell? ⟨gb285, 2, none⟩ = some (.slice A0_2 l0_2.length c0_2) := (blk_cell BK285.out 2).trans rfl
                have hfz16_0 := blk_frozen BK285.out 0
                have hfz16_1 := blk_frozen BK285.out 1
                have hfz16_2 := blk_frozen BK285.out 2
                have p286 : 0 ≤ (x4_1 : Int) := of_decide_eq_true (by first | (with_reducible assumption) | assumption)
                have q286 : x4_1 < (l0_2.length : Int) := of_decide_eq_true (by first | (with_reducible assumption) | assumption)
                obtain ⟨ad286, e286, hx286_0⟩ := Kd.at_string HR0_2.out x4_1 p286 q286
                cases e286
                replace hx286_0 := (HB.out.cell (World.block_lt_of_cell? w _ hx286_0)).trans hx286_0
                replace p286 := eq_true p286
                replace q286 := eq_true q286
                go_wp2_with (first | (go_at_call 46; (with_reducible refine (spec_NameOk.calls k1 (rdOf ByteArray.empty l0_2 x4_1) true _ A7.out).mono ?_); rintro e w' ⟨rfl, ⟨nd, rfl⟩⟩; (try first | exact ⟨rfl, _, World.drewN_drewN _ _ _⟩ | exact ⟨rfl, _, Eq.trans (World.drewN_drewN _ _ _) (congrArg (World.drewN _) (Nat.add_assoc _ _ _))⟩)))
                repeat (go_quiet (first | (go_at_call 46; (with_reducible refine (spec_NameOk.calls k1 (rdOf ByteArray.empty l0_2 x4_1) true _ A7.out).mono ?_); rintro e w' ⟨rfl, ⟨nd, rfl⟩⟩; (try first | exact ⟨rfl, _, World.drewN_drewN _ _ _⟩ | exact ⟨rfl, _, Eq.trans (World.drewN_drewN _ _ _) (congrArg (World.drewN _) (Nat.add_assoc _ _ _))⟩))); try go_wp2_with (first | (go_at_call 46; (with_reducible refine (spec_NameOk.calls k1 (rdOf ByteArray.empty l0_2 x4_1) true _ A7.out).mono ?_); rintro e w' ⟨rfl, ⟨nd, rfl⟩⟩; (try first | exact ⟨rfl, _, World.drewN_drewN _ _ _⟩ | exact ⟨rfl, _, Eq.trans (World.drewN_drewN _ _ _) (congrArg (World.drewN _) (Nat.add_assoc _ _ _))⟩))))
                go_roundg k1
                case measure => have := HK1.out; omega
                case rel => exact ⟨(wrap64 (x4_1 + 1)), (by first | rfl | (simp; done) | (simp [*]; done)), H', ⟨by have := HK1.out; omega⟩, ⟨by (with_reducible repeat (first | refine blk_drewN ?_ _ | refine blk_drew ?_ | refine blk_alloc ?_ _)); exact BK285.out⟩, ⟨by repeat (first | (with_reducible first | exact HB.out | apply below_alloc | apply pw_below_drewN | apply below_drew1 | refine below_set ?_ GE285.out) | exact HB.out)⟩⟩
            · replace c8 := Bool.eq_false_iff.mpr c8
              subst c8
              have H1 : (some false) = some r := by rw [if_neg (show ¬ (false = true) by decide)] at H; exact H
              clear H
              have H := H1
              clear H1
              obtain rfl := Option.some.inj H
              have hcz17_0 : wr.cell? ⟨gb285, 0, none⟩ = some (.int .i64 a0_0) := (blk_cell BK285.out 0).trans rfl
              have hcz17_1 : wr.cell? ⟨gb285, 1, none⟩ = some (.string a0_1) := (blk_cell BK285.out 1).trans rfl
              have hcz17_2 : wr.cell? ⟨gb285, 2, none⟩ = some (.slice A0_2 l0_2.length c0_2) := (blk_cell BK285.out 2).trans rfl
              have hfz17_0 := blk_frozen BK285.out 0
              have hfz17_1 := blk_frozen BK285.out 1
              have hfz17_2 := blk_frozen BK285.out 2
              have p286 : 0 ≤ (x4_1 : Int) := of_decide_eq_true (by first | (with_reducible assumption) | assumption)
              have q286 : x4_1 < (l0_2.length : Int) := of_decide_eq_true (by first | (with_reducible assumption) | assumption)
              obtain ⟨ad286, e286, hx286_0⟩ := Kd.at_string HR0_2.out x4_1 p286 q286
              cases e286
              replace hx286_0 := (HB.out.cell (World.block_lt_of_cell? w _ hx286_0)).trans hx286_0
              replace p286 := eq_true p286
              replace q286 := eq_true q286
              go_wp2_with (first | (go_at_call 46; (with_reducible refine (spec_NameOk.calls k1 (rdOf ByteArray.empty l0_2 x4_1) false _ A7.out).mono ?_); rintro e w' ⟨rfl, ⟨nd, rfl⟩⟩; (try first | exact ⟨rfl, _, World.drewN_drewN _ _ _⟩ | exact ⟨rfl, _, Eq.trans (World.drewN_drewN _ _ _) (congrArg (World.drewN _) (Nat.add_assoc _ _ _))⟩)))
              repeat (go_quiet (first | (go_at_call 46; (with_reducible refine (spec_NameOk.calls k1 (rdOf ByteArray.empty l0_2 x4_1) false _ A7.out).mono ?_); rintro e w' ⟨rfl, ⟨nd, rfl⟩⟩; (try first | exact ⟨rfl, _, World.drewN_drewN _ _ _⟩ | exact ⟨rfl, _, Eq.trans (World.drewN_drewN _ _ _) (congrArg (World.drewN _) (Nat.add_assoc _ _ _))⟩))); try go_wp2_with (first | (go_at_call 46; (with_reducible refine (spec_NameOk.calls k1 (rdOf ByteArray.empty l0_2 x4_1) false _ A7.out).mono ?_); rintro e w' ⟨rfl, ⟨nd, rfl⟩⟩; (try first | exact ⟨rfl, _, World.drewN_drewN _ _ _⟩ | exact ⟨rfl, _, Eq.trans (World.drewN_drewN _ _ _) (congrArg (World.drewN _) (Nat.add_assoc _ _ _))⟩))))
              go_ret
              exact ⟨by first | rfl | (simp [errW_none, errW_some] <;> rfl) | (simp [*, errW_none, errW_some] <;> rfl), by repeat (first | (with_reducible first | exact HB.out | apply below_alloc | apply pw_below_drewN | apply below_drew1 | refine below_set ?_ GE285.out) | exact HB.out)⟩
          · rw [if_neg c6] at H
            exact absurd H (by simp)
        · rw [if_neg c5] at H
          exact absurd H (by simp)
      · rw [if_neg c4] at H
        have c4b0 : decide (x4_1 < (l0_2.length : Int)) = false := decide_eq_false c4
        clear c4
        replace H := Option.bind_eq_some_iff.mp H
        obtain ⟨t290, A180, H⟩ := H
        replace H : (if t290 = true then (if a0_0 = 1 then (spec_l2Term.j1 k1 (l0_2.length : Int) a0_0 (a0_0 == 1)) else (spec_l2Term.j1 k1 (l0_2.length : Int) a0_0 (a0_0 == 2))) else (some false)) = some r := H
        have A18 := Aside0.mk A180
        clear A180
        by_cases c19 : t290 = true
        · subst c19
          have H1 : (if a0_0 = 1 then (spec_l2Term.j1 k1 (l0_2.length : Int) a0_0 (a0_0 == 1)) else (spec_l2Term.j1 k1 (l0_2.length : Int) a0_0 (a0_0 == 2))) = some r := by rw [if_pos rfl] at H; exact H
          clear H
          have H := H1
          clear H1
          have HC20 := Aside0.mk H
          clear H
          have hcz21_0 : wr.cell? ⟨gb285, 0, none⟩ = some (.int .i64 a0_0) := (blk_cell BK285.out 0).trans rfl
          have hcz21_1 : wr.cell? ⟨gb285, 1, none⟩ = some (.string a0_1) := (blk_cell BK285.out 1).trans rfl
          have hcz21_2 : wr.cell? ⟨gb285, 2, none⟩ = some (.slice A0_2 l0_2.length c0_2) := (blk_cell BK285.out 2).trans rfl
          have hfz21_0 := blk_frozen BK285.out 0
          have hfz21_1 := blk_frozen BK285.out 1
          have hfz21_2 := blk_frozen BK285.out 2
          go_upto_if 44 with (first | (go_at_call 46; (with_reducible refine (spec_NameOk.calls k1 a0_1 true _ A18.out).mono ?_); rintro e w' ⟨rfl, ⟨nd, rfl⟩⟩; (try first | exact ⟨rfl, _, World.drewN_drewN _ _ _⟩ | exact ⟨rfl, _, Eq.trans (World.drewN_drewN _ _ _) (congrArg (World.drewN _) (Nat.add_assoc _ _ _))⟩)))
          repeat (go_quiet (first | (go_at_call 46; (with_reducible refine (spec_NameOk.calls k1 a0_1 true _ A18.out).mono ?_); rintro e w' ⟨rfl, ⟨nd, rfl⟩⟩; (try first | exact ⟨rfl, _, World.drewN_drewN _ _ _⟩ | exact ⟨rfl, _, Eq.trans (World.drewN_drewN _ _ _) (congrArg (World.drewN _) (Nat.add_assoc _ _ _))⟩))); go_upto_if 44 with (first | (go_at_call 46; (with_reducible refine (spec_NameOk.calls k1 a0_1 true _ A18.out).mono ?_); rintro e w' ⟨rfl, ⟨nd, rfl⟩⟩; (try first | exact ⟨rfl, _, World.drewN_drewN _ _ _⟩ | exact ⟨rfl, _, Eq.trans (World.drewN_drewN _ _ _) (congrArg (World.drewN _) (Nat.add_assoc _ _ _))⟩))))
          (try simp only [Act.put, List.setIfInBounds_toArray, List.set_cons_zero, List.set_cons_succ])
          go_cut [44] (fun v44 wc => ∃ (kq : Nat) (x44_19 : Bool), v44 = .bool x44_19 ∧ Aside0 (spec_l2Term.j1 kq (l0_2.length : Int) a0_0 x44_19 = some r) ∧ Aside0 (kq ≤ k1) ∧ Aside0 (wc.heap[gb285]? = some (.cells #[.int .i64 a0_0, .string a0_1, (.slice A0_2 l0_2.length c0_2)] 52 (0, 0))) ∧ Aside0 (Below w.heap.size w wc))
          case first =>
            have H := HC20.out
            clear HC20
            by_cases c22 : a0_0 = 1
            · rw [if_pos c22] at H
              have c22b0 : (a0_0 == 1) = true := beq_iff_eq.mpr c22
              have c22b1 : (a0_0 != 1) = false := bne_eq_false_iff_eq.mpr c22
              clear c22
              (first | rw [c22b0] | (simp only [i64_w, i32_w]; rw [c22b0]) | skip)
              have H' := Aside0.mk H
              clear H
              go_wp2
              repeat (go_quiet (fail); try go_wp2)
              go_meet
              case rel => exact ⟨_, ((a0_0 == 1)), (by first | rfl | (simp; done) | (simp [*]; done)), H', ⟨by have := HK1.out; first | omega | exact Nat.le_refl _⟩, ⟨by (with_reducible repeat (first | refine blk_drewN ?_ _ | refine blk_drew ?_ | refine blk_alloc ?_ _)); exact BK285.out⟩, ⟨by repeat (first | (with_reducible first | exact HB.out | apply below_alloc | apply pw_below_drewN | apply below_drew1 | refine below_set ?_ GE285.out) | exact HB.out)⟩⟩
            · rw [if_neg c22] at H
              have c22b0 : (a0_0 == 1) = false := beq_eq_false_iff_ne.mpr c22
              have c22b1 : (a0_0 != 1) = true := bne_iff_ne.mpr c22
              (first | rw [c22b0] | (simp only [i64_w, i32_w]; rw [c22b0]) | skip)
              have H' := Aside0.mk H
              clear H
              go_wp2
              repeat (go_quiet (fail); try go_wp2)
              go_meet
              case rel => exact ⟨_, ((a0_0 == 2)), (by first | rfl | (simp; done) | (simp [*]; done)), H', ⟨by have := HK1.out; first | omega | exact Nat.le_refl _⟩, ⟨by (with_reducible repeat (first | refine blk_drewN ?_ _ | refine blk_drew ?_ | refine blk_alloc ?_ _)); exact BK285.out⟩, ⟨by repeat (first | (with_reducible first | exact HB.out | apply below_alloc | apply pw_below_drewN | apply below_drew1 | refine below_set ?_ GE285.out) | exact HB.out)⟩⟩
          case rest =>
            clear HC20
            try clear c1
            try clear c2
            try clear p2
            try clear q2
            try clear hx2
            try clear c4
            try clear c4b0
            try clear c5
            try clear c5b0
            try clear c6
            try clear c6b0
            try clear p6
            try clear c8
            try clear c9
            try clear c9b0
            try clear c11
            try clear c11b0
            try clear c12
            try clear c12b0
            try clear c13
            try clear c13b0
            try clear c19
            try clear c22
            try clear c22b0
            try clear c22b1
            try clear hcz14_0
            try clear hcz14_1
            try clear hcz14_2
            try clear hcz15_0
            try clear hcz15_1
            try clear hcz15_2
            try clear hcz16_0
            try clear hcz16_1
            try clear hcz16_2
            try clear hcz17_0
            try clear hcz17_1
            try clear hcz17_2
            try clear hcz21_0
            try clear hcz21_1
            try clear hcz21_2
            try clear hcz3_0
            try clear hcz3_1
            try clear hcz3_2
            try clear hfz14_0
            try clear hfz14_1
            try clear hfz14_2
            try clear hfz15_0
            try clear hfz15_1
            try clear hfz15_2
            try clear hfz16_0
            try clear hfz16_1
            try clear hfz16_2
            try clear hfz17_0
            try clear hfz17_1
            try clear hfz17_2
            try clear hfz21_0
            try clear hfz21_1
            try clear hfz21_2
            try clear hfz3_0
            try clear hfz3_1
            try clear hfz3_2
            try clear hx286_0
            try clear hx288_0
            try clear hx289_0
            try clear p2
            try clear p286
            try clear p288
            try clear p289
            try clear q286
            try clear q288
            try clear q289
            obtain ⟨kq, x44_19, rfl, HA, HJ19, BK285, HB⟩ := hcut
            cases kq with
            | zero => exact absurd HA.out (by simp [spec_l2Term.j1])
            | succ kj19 =>
              have H := HA.out
              clear HA
              simp only [spec_l2Term.j1] at H
              by_cases c23 : x44_19 = true
              · subst c23
                have H1 : (some ((l0_2.length : Int) == 1)) = some r := by rw [if_pos rfl] at H; exact H
                clear H
                have H := H1
                clear H1
                obtain rfl := Option.some.inj H
                go_wp2
                repeat (go_quiet (fail); try go_wp2)
                go_ret
                exact ⟨by first | rfl | (simp [errW_none, errW_some] <;> rfl) | (simp [*, errW_none, errW_some] <;> rfl), by repeat (first | (with_reducible first | exact HB.out | apply below_alloc | apply pw_below_drewN | apply below_drew1 | refine below_set ?_ GE285.out) | exact HB.out)⟩
              · replace c23 := Bool.eq_false_iff.mpr c23
                subst c23
                have H1 : (if a0_0 = 3 then ((spec_l1In.f (l0_2.length : Int) 1 6).bind fun t291 => (some t291)) else (if a0_0 = 4 then (some ((l0_2.length : Int) == 0)) else (if a0_0 = 5 then (some ((l0_2.length : Int) == 0)) else (some false)))) = some r := by rw [if_neg (show ¬ (false = true) by decide)] at H; exact H
                clear H
                have H := H1
                clear H1
                by_cases c24 : a0_0 = 3
                · rw [if_pos c24] at H
                  have c24b0 : (a0_0 == 3) = true := beq_iff_eq.mpr c24
                  have c24b1 : (a0_0 != 3) = false := bne_eq_false_iff_eq.mpr c24
                  clear c24
                  replace H := Option.bind_eq_some_iff.mp H
                  obtain ⟨t291, A250, H⟩ := H
                  replace H : (some t291) = some r := H
                  have A25 := Aside0.mk A250
                  clear A250
                  obtain rfl := Option.some.inj H
                  go_wp2_with (first | (go_at_call 76; (with_reducible refine (spec_l1In.calls (l0_2.length : Int) 1 6 t291 _ A25.out).mono ?_); rintro e w' ⟨rfl, ⟨nd, rfl⟩⟩; (try first | exact ⟨rfl, _, World.drewN_drewN _ _ _⟩ | exact ⟨rfl, _, Eq.trans (World.drewN_drewN _ _ _) (congrArg (World.drewN _) (Nat.add_assoc _ _ _))⟩)))
                  repeat (go_quiet (first | (go_at_call 76; (with_reducible refine (spec_l1In.calls (l0_2.length : Int) 1 6 t291 _ A25.out).mono ?_); rintro e w' ⟨rfl, ⟨nd, rfl⟩⟩; (try first | exact ⟨rfl, _, World.drewN_drewN _ _ _⟩ | exact ⟨rfl, _, Eq.trans (World.drewN_drewN _ _ _) (congrArg (World.drewN _) (Nat.add_assoc _ _ _))⟩))); try go_wp2_with (first | (go_at_call 76; (with_reducible refine (spec_l1In.calls (l0_2.length : Int) 1 6 t291 _ A25.out).mono ?_); rintro e w' ⟨rfl, ⟨nd, rfl⟩⟩; (try first | exact ⟨rfl, _, World.drewN_drewN _ _ _⟩ | exact ⟨rfl, _, Eq.trans (World.drewN_drewN _ _ _) (congrArg (World.drewN _) (Nat.add_assoc _ _ _))⟩))))
                  go_ret
                  exact ⟨by first | rfl | (simp [errW_none, errW_some] <;> rfl) | (simp [*, errW_none, errW_some] <;> rfl), by repeat (first | (with_reducible first | exact HB.out | apply below_alloc | apply pw_below_drewN | apply below_drew1 | refine below_set ?_ GE285.out) | exact HB.out)⟩
                · rw [if_neg c24] at H
                  have c24b0 : (a0_0 == 3) = false := beq_eq_false_iff_ne.mpr c24
                  have c24b1 : (a0_0 != 3) = true := bne_iff_ne.mpr c24
                  by_cases c26 : a0_0 = 4
                  · rw [if_pos c26] at H
                    have c26b0 : (a0_0 == 4) = true := beq_iff_eq.mpr c26
                    have c26b1 : (a0_0 != 4) = false := bne_eq_false_iff_eq.mpr c26
                    clear c26
                    obtain rfl := Option.some.inj H
                    go_wp2
                    repeat (go_quiet (fail); try go_wp2)
                    go_ret
                    exact ⟨by first | rfl | (simp [errW_none, errW_some] <;> rfl) | (simp [*, errW_none, errW_some] <;> rfl), by repeat (first | (with_reducible first | exact HB.out | apply below_alloc | apply pw_below_drewN | apply below_drew1 | refine below_set ?_ GE285.out) | exact HB.out)⟩
                  · rw [if_neg c26] at H
                    have c26b0 : (a0_0 == 4) = false := beq_eq_false_iff_ne.mpr c26
                    have c26b1 : (a0_0 != 4) = true := bne_iff_ne.mpr c26
                    by_cases c27 : a0_0 = 5
                    · rw [if_pos c27] at H
                      have c27b0 : (a0_0 == 5) = true := beq_iff_eq.mpr c27
                      have c27b1 : (a0_0 != 5) = false := bne_eq_false_iff_eq.mpr c27
                      clear c27
                      obtain rfl := Option.some.inj H
                      go_wp2
                      repeat (go_quiet (fail); try go_wp2)
                      go_ret
                      exact ⟨by first | rfl | (simp [errW_none, errW_some] <;> rfl) | (simp [*, errW_none, errW_some] <;> rfl), by repeat (first | (with_reducible first | exact HB.out | apply below_alloc | apply pw_below_drewN | apply below_drew1 | refine below_set ?_ GE285.out) | exact HB.out)⟩
                    · rw [if_neg c27] at H
                      have c27b0 : (a0_0 == 5) = false := beq_eq_false_iff_ne.mpr c27
                      have c27b1 : (a0_0 != 5) = true := bne_iff_ne.mpr c27
                      obtain rfl := Option.some.inj H
                      go_wp2
                      repeat (go_quiet (fail); try go_wp2)
                      go_ret
                      exact ⟨by first | rfl | (simp [errW_none, errW_some] <;> rfl) | (simp [*, errW_none, errW_some] <;> rfl), by repeat (first | (with_reducible first | exact HB.out | apply below_alloc | apply pw_below_drewN | apply below_drew1 | refine below_set ?_ GE285.out) | exact HB.out)⟩
        · replace c19 := Bool.eq_false_iff.mpr c19
          subst c19
          have H1 : (some false) = some r := by rw [if_neg (show ¬ (false = true) by decide)] at H; exact H
          clear H
          have H := H1
          clear H1
          obtain rfl := Option.some.inj H
          have hcz28_0 : wr.cell? ⟨gb285, 0, none⟩ = some (.int .i64 a0_0) := (blk_cell BK285.out 0).trans rfl
          have hcz28_1 : wr.cell? ⟨gb285, 1, none⟩ = some (.string a0_1) := (blk_cell BK285.out 1).trans rfl
          have hcz28_2 : wr.cell? ⟨gb285, 2, none⟩ = some (.slice A0_2 l0_2.length c0_2) := (blk_cell BK285.out 2).trans rfl
          have hfz28_0 := blk_frozen BK285.out 0
          have hfz28_1 := blk_frozen BK285.out 1
          have hfz28_2 := blk_frozen BK285.out 2
          go_wp2_with (first | (go_at_call 46; (with_reducible refine (spec_NameOk.calls k1 a0_1 false _ A18.out).mono ?_); rintro e w' ⟨rfl, ⟨nd, rfl⟩⟩; (try first | exact ⟨rfl, _, World.drewN_drewN _ _ _⟩ | exact ⟨rfl, _, Eq.trans (World.drewN_drewN _ _ _) (congrArg (World.drewN _) (Nat.add_assoc _ _ _))⟩)))
          repeat (go_quiet (first | (go_at_call 46; (with_reducible refine (spec_NameOk.calls k1 a0_1 false _ A18.out).mono ?_); rintro e w' ⟨rfl, ⟨nd, rfl⟩⟩; (try first | exact ⟨rfl, _, World.drewN_drewN _ _ _⟩ | exact ⟨rfl, _, Eq.trans (World.drewN_drewN _ _ _) (congrArg (World.drewN _) (Nat.add_assoc _ _ _))⟩))); try go_wp2_with (first | (go_at_call 46; (with_reducible refine (spec_NameOk.calls k1 a0_1 false _ A18.out).mono ?_); rintro e w' ⟨rfl, ⟨nd, rfl⟩⟩; (try first | exact ⟨rfl, _, World.drewN_drewN _ _ _⟩ | exact ⟨rfl, _, Eq.trans (World.drewN_drewN _ _ _) (congrArg (World.drewN _) (Nat.add_assoc _ _ _))⟩))))
          go_ret
          exact ⟨by first | rfl | (simp [errW_none, errW_some] <;> rfl) | (simp [*, errW_none, errW_some] <;> rfl), by repeat (first | (with_reducible first | exact HB.out | apply below_alloc | apply pw_below_drewN | apply below_drew1 | refine below_set ?_ GE285.out) | exact HB.out)⟩

end Go.Proofs.Ytpjpnppoejnafaa.G

/- G23 -/
-- Laid by wip/g/gprint.py out of the translation, by the kit's print program. Lean checks it.
namespace Go.Proofs.Ytpjpnppoejnafaa.G
open Go.RowKit Go.Proofs.YtpjpnppoejnafaaW.PrintWords Go.Proofs.YtpjpnppoejnafaaW.PrintLast Go.Proofs.YtpjpnppoejnafaaW.PrintMore
attribute [local go_sem] max2_int min2_int max_two min_two max_three min_three max_four min_four   -- for this text's walks alone
set_option linter.unusedVariables false
set_option linter.unusedSimpArgs false

/-! ### spec_SelectorOk: function 23 -/
def spec_SelectorOk.l0 : Nat → List (S52) → Int → Option (Bool)
  | 0, _, _ => none
  | k + 1, x0, x3 => if x3 < (x0.length : Int) then (if 0 ≤ x3 then ((spec_l2Term.f k ((rd_T52 x0 x3).f0) ((rd_T52 x0 x3).f1) ((rd_T52 x0 x3).f2)).bind fun t293 => (if t293 = true then (spec_SelectorOk.l0 k x0 (wrap64 (x3 + 1))) else (some false))) else (none)) else (some (decide ((x0.length : Int) ≤ 8)))
def spec_SelectorOk.f (k : Nat) (l0 : List (S52)) : Option (Bool) := spec_SelectorOk.l0 k l0 0
theorem spec_SelectorOk.mono_l : ∀ k, (∀ y0 y1, LeO (spec_SelectorOk.l0 k y0 y1) (spec_SelectorOk.l0 (k + 1) y0 y1))
  | 0 => fun _ _ r h => by simp [spec_SelectorOk.l0] at h
  | k + 1 => by
    have ih0 := spec_SelectorOk.mono_l k
    · intro y0 y1
      unfold spec_SelectorOk.l0
      repeat' first
      | (with_reducible exact ih0 _ _)
      | (with_reducible exact spec_l2Term.mono _ _ _ _)
      | (with_reducible exact LeO.refl _)
      | (with_reducible exact LeO.none _)
      | (with_reducible refine LeO.ite ?_ ?_)
      | (with_reducible refine LeO.bind ?_ (fun _ => ?_))
      | exact ih0 _ _
      | exact spec_l2Term.mono _ _ _ _
      | exact LeO.none _
      | refine LeO.ite ?_ ?_
      | refine LeO.bind ?_ (fun _ => ?_)
theorem spec_SelectorOk.mono : ∀ a0 k, LeO (spec_SelectorOk.f k a0) (spec_SelectorOk.f (k + 1) a0) := by
  intro a0 k
  have ih0 := spec_SelectorOk.mono_l k
  unfold spec_SelectorOk.f
  repeat' first
      | (with_reducible exact ih0 _ _)
      | (with_reducible exact spec_l2Term.mono _ _ _ _)
      | (with_reducible exact LeO.refl _)
      | (with_reducible exact LeO.none _)
      | (with_reducible refine LeO.ite ?_ ?_)
      | (with_reducible refine LeO.bind ?_ (fun _ => ?_))
      | exact ih0 _ _
      | exact spec_l2Term.mono _ _ _ _
      | exact LeO.none _
      | refine LeO.ite ?_ ?_
      | refine LeO.bind ?_ (fun _ => ?_)
set_option maxHeartbeats 8000000 in
set_option maxRecDepth 100000 in
theorem spec_SelectorOk.calls (k : Nat) (A0 : Option Addr) (c0 : Nat) (l0 : List (S52)) (r : Bool) (w : World) (hr0 : Kd.C k52 w A0 l0.length l0) (hc0 : l0.length ≤ c0) (h : spec_SelectorOk.f k l0 = some r) :
    Calls Try.prog 23 #[.slice A0 l0.length c0] w fun e w' => e = .returned (.bool r) ∧ Below w.heap.size w w' := by
  have hu52 := Try.underlying52
  have HR0 := Aside0.mk hr0
  have HC0 := Aside0.mk hc0
  clear hr0 hc0
  have HB := Aside0.mk (Below.refl w.heap.size w)
  have H : (spec_SelectorOk.l0 k l0 0) = some r := h
  clear h
  have H' := Aside0.mk H
  clear H
  go_enter Try.func23, Try.ntmps23
  go_wp2
  go_loopg [3] k (fun kq v3 w' => ∃ (x3_1 : Int), v3 = .int .i64 x3_1 ∧ Aside0 (spec_SelectorOk.l0 kq l0 x3_1 = some r) ∧ Aside0 (kq ≤ k) ∧ Aside0 (Below w.heap.size w w'))
  case atStart => exact ⟨(0), (by first | rfl | (simp; done) | (simp [*]; done)), H', ⟨Nat.le_refl _⟩, ⟨by repeat (first | (with_reducible first | exact HB.out | apply below_alloc | apply pw_below_drewN | apply below_drew1) | exact HB.out)⟩⟩
  case round =>
    clear H'
    obtain ⟨x3_1, rfl, HA, HK1, HB⟩ := hrel
    cases gk with
    | zero => exact absurd HA.out (by simp [spec_SelectorOk.l0])
    | succ k1 =>
      have H := HA.out
      clear HA
      simp only [spec_SelectorOk.l0] at H
      by_cases c2 : x3_1 < (l0.length : Int)
      · rw [if_pos c2] at H
        have c2b0 : decide (x3_1 < (l0.length : Int)) = true := decide_eq_true c2
        clear c2
        by_cases c3 : 0 ≤ x3_1
        · rw [if_pos c3] at H
          have c3b0 : decide (0 ≤ x3_1) = true := decide_eq_true c3
          clear c3
          replace H := Option.bind_eq_some_iff.mp H
          obtain ⟨t293, A40, H⟩ := H
          replace H : (if t293 = true then (spec_SelectorOk.l0 k1 l0 (wrap64 (x3_1 + 1))) else (some false)) = some r := H
          have A4 := Aside0.mk A40
          clear A40
          by_cases c5 : t293 = true
          · subst c5
            have H1 : (spec_SelectorOk.l0 k1 l0 (wrap64 (x3_1 + 1))) = some r := by rw [if_pos rfl] at H; exact H
            clear H
            have H := H1
            clear H1
            have H' := Aside0.mk H
            clear H
            have p292 : 0 ≤ (x3_1 : Int) := of_decide_eq_true (by first | (with_reducible assumption) | assumption)
            have q292 : x3_1 < (l0.length : Int) := of_decide_eq_true (by first | (with_reducible assumption) | assumption)
            obtain ⟨ad292, A292_2, c292_2, e292, hx292_0, hx292_1, hx292_2, hl292_2, hi292_2⟩ := at_T52 HR0.out x3_1 p292 q292
            cases e292
            replace hx292_0 := (HB.out.cell (World.block_lt_of_cell? w _ hx292_0)).trans hx292_0
            replace hx292_1 := (HB.out.cell (World.block_lt_of_cell? w _ hx292_1)).trans hx292_1
            replace hx292_2 := (HB.out.cell (World.block_lt_of_cell? w _ hx292_2)).trans hx292_2
            have HR292_2 := Aside0.mk hi292_2
            have HC292_2 := Aside0.mk hl292_2
            clear hi292_2 hl292_2
            replace p292 := eq_true p292
            replace q292 := eq_true q292
            go_wp2_with (first | ((with_reducible refine gate_callee (f := 54) rfl ?_); refine goesL_ (some 14) rfl rfl Try.func54 (by kernel_rfl) rfl #[.agg #[.int .i64 ((rd_T52 l0 x3_1).f0), .string ((rd_T52 l0 x3_1).f1), .slice A292_2 ((rd_T52 l0 x3_1).f2).length c292_2]] rfl (by (try simp only [List.map_toArray, List.map_cons, List.map_nil]); first | done | rfl | (simp only [List.length_drop, List.length_take]; rfl)) ?_; (with_reducible refine (spec_l2Term.calls k1 ((rd_T52 l0 x3_1).f0) ((rd_T52 l0 x3_1).f1) _ _ ((rd_T52 l0 x3_1).f2) true _ ?side1 ?side2 A4.out).mono ?_); (case side1 => repeat (first | exact (Kd.C_below HR292_2.out HB.out) | (with_reducible refine Kd.C_alloc ?_ _) | (with_reducible refine Kd.C_drewN ?_ _) | (with_reducible refine Kd.C_drew ?_))); (case side2 => exact HC292_2.out); rintro e w6 ⟨rfl, hb⟩; refine ⟨_, rfl, ?_⟩; have n0_ := Aside0.mk (below_step (by repeat (first | (with_reducible first | exact HB.out | apply below_alloc | apply pw_below_drewN | apply below_drew1) | exact HB.out)) hb); clear HB; have HB := n0_; clear n0_; (try clear hb); (try clear hb2); (try clear hk); (try clear hi)))
            go_roundg k1
            case measure => have := HK1.out; omega
            case rel => exact ⟨(wrap64 (x3_1 + 1)), (by first | rfl | (simp; done) | (simp [*]; done)), H', ⟨by have := HK1.out; omega⟩, ⟨by repeat (first | (with_reducible first | exact HB.out | apply below_alloc | apply pw_below_drewN | apply below_drew1) | exact HB.out)⟩⟩
          · replace c5 := Bool.eq_false_iff.mpr c5
            subst c5
            have H1 : (some false) = some r := by rw [if_neg (show ¬ (false = true) by decide)] at H; exact H
            clear H
            have H := H1
            clear H1
            obtain rfl := Option.some.inj H
            have p292 : 0 ≤ (x3_1 : Int) := of_decide_eq_true (by first | (with_reducible assumption) | assumption)
            have q292 : x3_1 < (l0.length : Int) := of_decide_eq_true (by first | (with_reducible assumption) | assumption)
            obtain ⟨ad292, A292_2, c292_2, e292, hx292_0, hx292_1, hx292_2, hl292_2, hi292_2⟩ := at_T52 HR0.out x3_1 p292 q292
            cases e292
            replace hx292_0 := (HB.out.cell (World.block_lt_of_cell? w _ hx292_0)).trans hx292_0
            replace hx292_1 := (HB.out.cell (World.block_lt_of_cell? w _ hx292_1)).trans hx292_1
            replace hx292_2 := (HB.out.cell (World.block_lt_of_cell? w _ hx292_2)).trans hx292_2
            have HR292_2 := Aside0.mk hi292_2
            have HC292_2 := Aside0.mk hl292_2
            clear hi292_2 hl292_2
            replace p292 := eq_true p292
            replace q292 := eq_true q292
            go_wp2_with (first | ((with_reducible refine gate_callee (f := 54) rfl ?_); refine goesL_ (some 14) rfl rfl Try.func54 (by kernel_rfl) rfl #[.agg #[.int .i64 ((rd_T52 l0 x3_1).f0), .string ((rd_T52 l0 x3_1).f1), .slice A292_2 ((rd_T52 l0 x3_1).f2).length c292_2]] rfl (by (try simp only [List.map_toArray, List.map_cons, List.map_nil]); first | done | rfl | (simp only [List.length_drop, List.length_take]; rfl)) ?_; (with_reducible refine (spec_l2Term.calls k1 ((rd_T52 l0 x3_1).f0) ((rd_T52 l0 x3_1).f1) _ _ ((rd_T52 l0 x3_1).f2) false _ ?side1 ?side2 A4.out).mono ?_); (case side1 => repeat (first | exact (Kd.C_below HR292_2.out HB.out) | (with_reducible refine Kd.C_alloc ?_ _) | (with_reducible refine Kd.C_drewN ?_ _) | (with_reducible refine Kd.C_drew ?_))); (case side2 => exact HC292_2.out); rintro e w7 ⟨rfl, hb⟩; refine ⟨_, rfl, ?_⟩; have n0_ := Aside0.mk (below_step (by repeat (first | (with_reducible first | exact HB.out | apply below_alloc | apply pw_below_drewN | apply below_drew1) | exact HB.out)) hb); clear HB; have HB := n0_; clear n0_; (try clear hb); (try clear hb2); (try clear hk); (try clear hi)))
            go_ret
            exact ⟨by first | rfl | (simp [errW_none, errW_some] <;> rfl) | (simp [*, errW_none, errW_some] <;> rfl), by repeat (first | (with_reducible first | exact HB.out | apply below_alloc | apply pw_below_drewN | apply below_drew1) | exact HB.out)⟩
        · rw [if_neg c3] at H
          exact absurd H (by simp)
      · rw [if_neg c2] at H
        have c2b0 : decide (x3_1 < (l0.length : Int)) = false := decide_eq_false c2
        clear c2
        obtain rfl := Option.some.inj H
        go_wp2
        go_ret
        exact ⟨by first | rfl | (simp [errW_none, errW_some] <;> rfl) | (simp [*, errW_none, errW_some] <;> rfl), by repeat (first | (with_reducible first | exact HB.out | apply below_alloc | apply pw_below_drewN | apply below_drew1) | exact HB.out)⟩

end Go.Proofs.Ytpjpnppoejnafaa.G

/- PTerm -/
/-
  Terms: sizes, copies, equality; selectors that are right.
-/
namespace Go.Proofs.Ytpjpnppoejnafaa.G
open Go.RowKit Go.Proofs.YtpjpnppoejnafaaW.PrintWords Go.Proofs.YtpjpnppoejnafaaW.PrintLast Go.Proofs.YtpjpnppoejnafaaW.PrintMore
set_option linter.unusedVariables false
abbrev LTerm := S73
abbrev ITerm := S52
theorem rdLT {xs : List LTerm} {i : Nat} (h : i < xs.length) : rd_T73 xs (i : Int) = xs[i] := by unfold rd_T73; rw [Int.toNat_natCast]; exact getD_at h _
theorem rdIT {xs : List ITerm} {i : Nat} (h : i < xs.length) : rd_T52 xs (i : Int) = xs[i] := by unfold rd_T52; rw [Int.toNat_natCast]; exact getD_at h _
theorem rdS {xs : List ByteArray} {i : Nat} (h : i < xs.length) : rdOf ByteArray.empty xs (i : Int) = xs[i] := by unfold rdOf; rw [Int.toNat_natCast]; exact getD_at h _
def wfStrs (xs : List ByteArray) : Prop := xs.length ≤ 9223372036854775807 ∧ ∀ x ∈ xs, x.size ≤ 9223372036854775807
theorem wfStrs_at {xs : List ByteArray} (h : wfStrs xs) {i : Nat} (hi : i < xs.length) : (rdOf ByteArray.empty xs (i : Int)).size ≤ 9223372036854775807 := by rw [rdS hi]; exact h.2 _ (List.getElem_mem hi)

/-! ### lists of strings -/
def totStrs (xs : List ByteArray) : Nat := xs.length + (xs.map ByteArray.size).sum
theorem szStringS_l0 (xs : List ByteArray) (hw : wfStrs xs) : ∀ (d i : Nat) (left : Int), i + d = xs.length → 0 ≤ left → left ≤ 1048576 → Ev (fun k => laws_szStringS.l0 k xs left i) (szR left ((xs.drop i).map ByteArray.size).sum)
  | 0, i, left, hd, h0, h1 => by
    refine Ev.step (f := fun _ => some left) (fun k => by rw [laws_szStringS.l0, if_neg (by omega)]) (ev_some ?_)
    rw [List.drop_of_length_le (by omega)]; exact (szR_zero h0).symm
  | d + 1, i, left, hd, h0, h1 => by
    have hi : i < xs.length := by omega
    have hs := hw.2 _ (List.getElem_mem hi)
    have e : ((xs.drop i).map ByteArray.size).sum = xs[i].size + ((xs.drop (i + 1)).map ByteArray.size).sum := by rw [List.drop_eq_getElem_cons hi, List.map_cons, List.sum_cons]
    rw [e, szR_add h0]
    refine Ev.step (fun k => by rw [laws_szStringS.l0]) ?_
    simp only [wsucc hi hw.1, rdS hi, w64 (by omega : -9223372036854775808 ≤ left - (xs[i].size : Int)) (by omega)]
    refine ev_if_pos (by omega) (ev_if_pos (by omega) ?_)
    by_cases c : left - (xs[i].size : Int) < 0
    · rw [szR_neg (by omega)]; exact ev_if_pos c (Ev.now _)
    · rw [szR_pos (by omega), if_neg c]; exact ev_if_neg c (szStringS_l0 xs hw d (i + 1) (left - (xs[i].size : Int)) (by omega) (by omega) (by omega))
theorem szStringS_ev (xs : List ByteArray) (left : Int) (hw : wfStrs xs) (h0 : 0 ≤ left) (h1 : left ≤ 1048576) : Ev (fun k => laws_szStringS.f k xs left) (szR left (totStrs xs)) := by
  have hl := hw.1
  unfold laws_szStringS.f totStrs
  rw [w64 (by omega) (by omega), szR_add h0]
  by_cases c : left - (xs.length : Int) < 0
  · rw [if_pos (by rw [szR_neg (by omega)]; omega)]; exact ev_if_pos c (Ev.now _)
  · rw [szR_pos (by omega), if_neg c]
    refine ev_if_neg c ?_
    have := szStringS_l0 xs hw xs.length 0 (left - (xs.length : Int)) (by omega) (by omega) (by omega)
    rw [List.drop_zero] at this
    exact this
theorem toStringS_l0 (xs : List ByteArray) (hl : xs.length ≤ 9223372036854775807) : ∀ (d i : Nat) (ys : List ByteArray), i + d = xs.length → ys.length = xs.length → Ev (fun k => laws_toStringS.l0 k xs ys i) (ys.take i ++ xs.drop i)
  | 0, i, ys, hd, hy => by
    refine Ev.step (f := fun _ => some ys) (fun k => by rw [laws_toStringS.l0, if_neg (by omega)]) (ev_some ?_)
    rw [List.take_of_length_le (by omega), List.drop_of_length_le (by omega)]; simp
  | d + 1, i, ys, hd, hy => by
    have hi : i < xs.length := by omega
    refine ev_rw (Ev.step (f := fun k => laws_toStringS.l0 k xs (ys.set i xs[i]) ((i + 1 : Nat) : Int)) (fun k => ?_) (toStringS_l0 xs hl d (i + 1) (ys.set i xs[i]) (by omega) (by simpa using hy))) ?_
    · rw [laws_toStringS.l0, if_pos (by omega), if_pos (by omega), rdS hi, if_pos (by omega), wsucc hi hl, Int.toNat_natCast]
    · rw [take_set_succ _ _ (by omega), List.drop_eq_getElem_cons hi, List.append_assoc]; rfl
theorem toStringS_ev (xs : List ByteArray) (hl : xs.length ≤ 1048576) : Ev (fun k => laws_toStringS.f k xs) xs := by
  unfold laws_toStringS.f
  refine ev_if_pos (by omega) (ev_if_pos (by simp; omega) ?_)
  have := toStringS_l0 xs (by omega) xs.length 0 (List.replicate ((xs.length : Int) : Int).toNat (⟨#[]⟩ : ByteArray)) (by omega) (by simp)
  simpa using this
theorem eqStringS_ev (xs : List ByteArray) (hl : xs.length ≤ 9223372036854775807) : Ev (fun k => laws_eqStringS.f k xs xs) true := by
  unfold laws_eqStringS.f
  refine ev_if_pos rfl ?_
  have := loop_all (g := fun k i => laws_eqStringS.l0 k xs xs i) xs.length (fun _ => true) true (fun i hi _ r hr => ?_) (fun i hi h => by cases h) (Ev.step (fun k => by rw [laws_eqStringS.l0]) (ev_if_neg (by omega) (Ev.now _)))
  · rw [allN_true.2 (fun _ _ => rfl)] at this; exact this
  · refine Ev.step (fun k => by rw [laws_eqStringS.l0]) ?_
    simp only [wsucc hi hl]
    exact ev_if_pos (by omega) (ev_if_pos (by omega) (ev_if_pos (by omega) (ev_if_pos (by first | trivial | rfl) hr)))

/-! ### terms -/
def wfTerm (x : LTerm) : Prop := (-9223372036854775808 ≤ x.f0 ∧ x.f0 ≤ 9223372036854775807) ∧ x.f1.size ≤ 9223372036854775807 ∧ wfStrs x.f2
def totTerm (x : LTerm) : Nat := x.f1.size + totStrs x.f2
def totTerms (xs : List LTerm) : Nat := xs.length + (xs.map totTerm).sum
theorem szTerm_ev (x : LTerm) (left : Int) (h0 : 0 ≤ left) (h1 : left ≤ 1048576) (hw : wfTerm x) : Ev (fun k => laws_szTerm.f k x.f0 x.f1 x.f2 left) (szR left (totTerm x)) := by
  obtain ⟨_, ha, hb⟩ := hw
  unfold laws_szTerm.f totTerm
  rw [szR_add h0, w64 (by omega) (by omega)]
  by_cases c1 : left - (x.f1.size : Int) < 0
  · rw [szR_neg (by omega)]; exact ev_if_pos c1 (Ev.now _)
  · rw [szR_pos (by omega), if_neg c1]
    refine ev_if_neg c1 (Ev.bind (szStringS_ev x.f2 _ hb (by omega) (by omega)) ?_)
    have := szR_le (by omega : 0 ≤ left - (x.f1.size : Int)) (totStrs x.f2)
    exact ev_if (fun c => ev_some (by omega)) (fun c => Ev.now _)
theorem szTermS_l0 (xs : List LTerm) (hw : ∀ x ∈ xs, wfTerm x) (hl : xs.length ≤ 9223372036854775807) : ∀ (d i : Nat) (left : Int), i + d = xs.length → 0 ≤ left → left ≤ 1048576 → Ev (fun k => laws_szTermS.l0 k xs left i) (szR left ((xs.drop i).map totTerm).sum)
  | 0, i, left, hd, h0, h1 => by
    refine Ev.step (f := fun _ => some left) (fun k => by rw [laws_szTermS.l0, if_neg (by omega)]) (ev_some ?_)
    rw [List.drop_of_length_le (by omega)]; exact (szR_zero h0).symm
  | d + 1, i, left, hd, h0, h1 => by
    have hi : i < xs.length := by omega
    have e : ((xs.drop i).map totTerm).sum = totTerm xs[i] + ((xs.drop (i + 1)).map totTerm).sum := by rw [List.drop_eq_getElem_cons hi, List.map_cons, List.sum_cons]
    have hs := szR_le h0 (totTerm xs[i])
    rw [e, szR_add h0]
    refine Ev.step (fun k => by rw [laws_szTermS.l0]) ?_
    simp only [wsucc hi hl, rdLT hi]
    refine ev_if_pos (by omega) (ev_if_pos (by omega) (Ev.bind (szTerm_ev _ _ h0 h1 (hw _ (List.getElem_mem hi))) ?_))
    by_cases c : szR left (totTerm xs[i]) < 0
    · rw [if_pos c]; exact ev_if_pos c (Ev.now _)
    · rw [if_neg c]; exact ev_if_neg c (szTermS_l0 xs hw hl d (i + 1) (szR left (totTerm xs[i])) (by omega) (by omega) (by omega))
theorem szTermS_ev (xs : List LTerm) (left : Int) (hw : ∀ x ∈ xs, wfTerm x) (hl : xs.length ≤ 9223372036854775807) (h0 : 0 ≤ left) (h1 : left ≤ 1048576) : Ev (fun k => laws_szTermS.f k xs left) (szR left (totTerms xs)) := by
  unfold laws_szTermS.f totTerms
  rw [w64 (by omega) (by omega), szR_add h0]
  by_cases c : left - (xs.length : Int) < 0
  · rw [if_pos (by rw [szR_neg (by omega)]; omega)]; exact ev_if_pos c (Ev.now _)
  · rw [szR_pos (by omega), if_neg c]
    refine ev_if_neg c ?_
    have := szTermS_l0 xs hw hl xs.length 0 (left - (xs.length : Int)) (by omega) (by omega) (by omega)
    rw [List.drop_zero] at this
    exact this
def cTerm (x : LTerm) : ITerm := ⟨x.f0, x.f1, x.f2⟩
/-- What is small: each list within is short. -/
def smTerm (x : LTerm) : Prop := x.f2.length ≤ 1048576
theorem toTerm_ev (x : LTerm) (h : smTerm x) : Ev (fun k => laws_toTerm.f k x.f0 x.f1 x.f2) (x.f0, x.f1, x.f2) := by
  unfold laws_toTerm.f
  exact Ev.bind (toStringS_ev x.f2 h) (Ev.now _)
theorem toTermS_l0 (xs : List LTerm) (hs : ∀ x ∈ xs, smTerm x) (hl : xs.length ≤ 9223372036854775807) : ∀ (d i : Nat) (ys : List ITerm), i + d = xs.length → ys.length = xs.length → Ev (fun k => laws_toTermS.l0 k xs ys i) (ys.take i ++ (xs.drop i).map cTerm)
  | 0, i, ys, hd, hy => by
    refine Ev.step (f := fun _ => some ys) (fun k => by rw [laws_toTermS.l0, if_neg (by omega)]) (ev_some ?_)
    rw [List.take_of_length_le (by omega), List.drop_of_length_le (by omega)]; simp
  | d + 1, i, ys, hd, hy => by
    have hi : i < xs.length := by omega
    refine ev_rw (Ev.step (fun k => by rw [laws_toTermS.l0]) ?_) (show ((ys.set i (cTerm xs[i])).take (i + 1) ++ (xs.drop (i + 1)).map cTerm) = _ from ?_)
    · simp only [wsucc hi hl, rdLT hi]
      refine ev_if_pos (by omega) (ev_if_pos (by omega) (Ev.bind (toTerm_ev _ (hs _ (List.getElem_mem hi))) (ev_if_pos (by omega) ?_)))
      simp only [Int.toNat_natCast]
      exact toTermS_l0 xs hs hl d (i + 1) (ys.set i (cTerm xs[i])) (by omega) (by simpa using hy)
    · rw [take_set_succ _ _ (by omega), List.drop_eq_getElem_cons hi, List.map_cons, List.append_assoc]; rfl
theorem toTermS_ev (xs : List LTerm) (hs : ∀ x ∈ xs, smTerm x) (hl : xs.length ≤ 1048576) : Ev (fun k => laws_toTermS.f k xs) (xs.map cTerm) := by
  unfold laws_toTermS.f
  refine ev_if_pos (by omega) (ev_if_pos (by simp; omega) ?_)
  have := toTermS_l0 xs hs (by omega) xs.length 0 (List.replicate ((xs.length : Int) : Int).toNat z52) (by omega) (by simp)
  simpa using this
theorem eqTerm_ev (x : ITerm) (h : x.f2.length ≤ 9223372036854775807) : Ev (fun k => laws_eqTerm.f k x.f0 x.f1 x.f2 x.f0 x.f1 x.f2) true := by
  unfold laws_eqTerm.f
  exact ev_if_pos (by first | trivial | rfl) (ev_if_pos (by first | trivial | rfl) (Ev.bind (eqStringS_ev _ h) (ev_if_pos (by first | trivial | rfl) (Ev.now _))))
theorem eqTermS_ev (xs : List ITerm) (hx : ∀ x ∈ xs, x.f2.length ≤ 9223372036854775807) (hl : xs.length ≤ 9223372036854775807) : Ev (fun k => laws_eqTermS.f k xs xs) true := by
  unfold laws_eqTermS.f
  refine ev_if_pos rfl ?_
  have := loop_all (g := fun k i => laws_eqTermS.l0 k xs xs i) xs.length (fun _ => true) true (fun i hi _ r hr => ?_) (fun i hi h => by cases h) (Ev.step (fun k => by rw [laws_eqTermS.l0]) (ev_if_neg (by omega) (Ev.now _)))
  · rw [allN_true.2 (fun _ _ => rfl)] at this; exact this
  · refine Ev.step (fun k => by rw [laws_eqTermS.l0]) ?_
    simp only [wsucc hi hl]
    exact ev_if_pos (by omega) (ev_if_pos (by omega) (ev_if_pos (by omega) (Ev.bind (eqTerm_ev _ (by rw [rdIT hi]; exact hx _ (List.getElem_mem hi))) (ev_if_pos rfl hr))))

/-! ### names in order; terms and selectors that are right -/
def namOkAt (xs : List ByteArray) (i : Nat) : Bool := nameB (rdOf ByteArray.empty xs i) && (i == 0 || Op.bytesLess (rdOf ByteArray.empty xs ((i - 1 : Nat) : Int)).toList (rdOf ByteArray.empty xs i).toList)
def namsB (xs : List ByteArray) : Bool := allN xs.length (namOkAt xs)
theorem namOk_less {xs : List ByteArray} {i : Nat} (h : namOkAt xs i = true) (h0 : 0 < i) : Op.bytesLess (rdOf ByteArray.empty xs ((i - 1 : Nat) : Int)).toList (rdOf ByteArray.empty xs i).toList = true := by
  simp only [namOkAt, Bool.and_eq_true, Bool.or_eq_true, beq_iff_eq] at h
  rcases h.2 with h1 | h1
  · omega
  · exact h1
theorem namOk_name {xs : List ByteArray} {i : Nat} (h : namOkAt xs i = true) : nameB (rdOf ByteArray.empty xs i) = true := by
  simp only [namOkAt, Bool.and_eq_true] at h; exact h.1
theorem namOk_false {xs : List ByteArray} {i : Nat} (h : namOkAt xs i = false) (hn : nameB (rdOf ByteArray.empty xs i) = true) : 0 < i ∧ Op.bytesLess (rdOf ByteArray.empty xs ((i - 1 : Nat) : Int)).toList (rdOf ByteArray.empty xs i).toList = false := by
  simp only [namOkAt, hn, Bool.true_and, Bool.or_eq_false_iff, beq_eq_false_iff_ne] at h
  exact ⟨by omega, h.2⟩
theorem namesOk_ev (xs : List ByteArray) (most : Int) (h : wfStrs xs) : Ev (fun k => impl_namesOk.f k xs most) (namsB xs && decide ((xs.length : Int) ≤ most)) := by
  unfold impl_namesOk.f namsB
  refine loop_all (g := fun k i => impl_namesOk.l0 k xs most xs xs.length i) xs.length _ _ ?_ ?_ ?_
  · intro i hi hok r hr
    refine Ev.step (fun k => by rw [impl_namesOk.l0]) ?_
    simp only [wsucc hi h.1]
    refine ev_if_pos (by omega) (ev_if_pos (by omega) (ev_if_pos (by omega) (Ev.bind (implNameOk_ev _ (wfStrs_at h hi)) (ev_if_pos (namOk_name hok) (ev_if (fun c => ?_) (fun c => hr))))))
    simp only [wpred (by omega : 0 < i) hi h.1]
    exact ev_if_pos (by omega) (ev_if_pos (by omega) (ev_if_pos (namOk_less hok (by omega)) hr))
  · intro i hi hok
    refine Ev.step (fun k => by rw [impl_namesOk.l0]) ?_
    refine ev_if_pos (by omega) (ev_if_pos (by omega) (ev_if_pos (by omega) (Ev.bind (implNameOk_ev _ (wfStrs_at h hi)) (ev_if (fun c0 => ?_) (fun _ => Ev.now _)))))
    obtain ⟨h0, hl⟩ := namOk_false hok c0
    simp only [wpred h0 hi h.1]
    exact ev_if_pos (by omega) (ev_if_pos (by omega) (ev_if_pos (by omega) (ev_if_neg (by rw [hl]; simp) (Ev.now _))))
  · exact Ev.step (fun k => by rw [impl_namesOk.l0]) (ev_if_neg (by omega) (Ev.now _))
def kindB (kind : Int) (n : Int) : Bool := if kind = 1 ∨ kind = 2 then n == 1 else if kind = 3 then inB n 1 6 else if kind = 4 ∨ kind = 5 then n == 0 else false
def wfITerm (x : ITerm) : Prop := x.f1.size ≤ 9223372036854775807 ∧ wfStrs x.f2
def termB (x : ITerm) : Bool := namsB x.f2 && (nameB x.f1 && kindB x.f0 x.f2.length)
theorem kindB_le {kind n : Int} (h : kindB kind n = true) : n ≤ 6 := by
  unfold kindB at h
  split at h
  · simp at h; omega
  · split at h
    · have := inB_true h; omega
    · split at h
      · simp at h; omega
      · cases h
theorem kindB_12 {k n : Int} (h : k = 1 ∨ k = 2) : kindB k n = (n == 1) := by unfold kindB; rw [if_pos h]
theorem kindB_3 {k n : Int} (h : k = 3) : kindB k n = inB n 1 6 := by unfold kindB; rw [if_neg (by omega), if_pos h]
theorem kindB_45 {k n : Int} (h : k = 4 ∨ k = 5) : kindB k n = (n == 0) := by unfold kindB; rw [if_neg (by omega), if_neg (by omega), if_pos h]
theorem kindB_no {k n : Int} (h : ¬ (k = 1 ∨ k = 2)) (h' : k ≠ 3) (h'' : ¬ (k = 4 ∨ k = 5)) : kindB k n = false := by unfold kindB; rw [if_neg h, if_neg h', if_neg h'']
theorem l2Term_ev (x : ITerm) (h : wfITerm x) : Ev (fun k => spec_l2Term.f k x.f0 x.f1 x.f2) (termB x) := by
  obtain ⟨hk, hv⟩ := h
  unfold spec_l2Term.f termB namsB
  refine loop_all (g := fun k i => spec_l2Term.l0 k x.f2.length i x.f0 x.f1 x.f2) x.f2.length _ _ ?_ ?_ ?_
  · intro i hi hok r hr
    refine Ev.step (fun k => by rw [spec_l2Term.l0]) ?_
    simp only [wsucc hi hv.1]
    refine ev_if_pos (by omega) (ev_if_pos (by omega) (ev_if_pos (by omega) (Ev.bind (specNameOk_ev _ (wfStrs_at hv hi)) (ev_if_pos (namOk_name hok) (ev_if (fun c => ?_) (fun c => hr))))))
    simp only [wpred (by omega : 0 < i) hi hv.1]
    exact ev_if_pos (by omega) (ev_if_pos (by omega) (ev_if_pos (namOk_less hok (by omega)) hr))
  · intro i hi hok
    refine Ev.step (fun k => by rw [spec_l2Term.l0]) ?_
    refine ev_if_pos (by omega) (ev_if_pos (by omega) (ev_if_pos (by omega) (Ev.bind (specNameOk_ev _ (wfStrs_at hv hi)) (ev_if (fun c0 => ?_) (fun _ => Ev.now _)))))
    obtain ⟨h0, hl⟩ := namOk_false hok c0
    simp only [wpred h0 hi hv.1]
    exact ev_if_pos (by omega) (ev_if_pos (by omega) (ev_if_pos (by omega) (ev_if_neg (by rw [hl]; simp) (Ev.now _))))
  · refine Ev.step (fun k => by rw [spec_l2Term.l0]) (ev_if_neg (by omega) (Ev.bind (specNameOk_ev _ hk) ?_))
    cases hn : nameB x.f1 with
    | false => exact ev_if_neg (by simp) (Ev.now _)
    | true =>
      rw [Bool.true_and]
      refine ev_if_pos rfl ?_
      have key : ∀ b : Bool, b = (x.f0 == 1 || x.f0 == 2) → Ev (fun k => spec_l2Term.j1 k x.f2.length x.f0 b) (kindB x.f0 x.f2.length) := by
        intro b hb
        refine Ev.step (fun k => by rw [spec_l2Term.j1]) ?_
        by_cases c : x.f0 = 1 ∨ x.f0 = 2
        · rw [kindB_12 c]; exact ev_if_pos (by rw [hb]; simpa using c) (ev_some (by first | rfl | (rw [Bool.eq_iff_iff]; simp; done) | (rw [Bool.eq_iff_iff]; simp)))
        · refine ev_if_neg (by rw [hb]; simpa using c) ?_
          by_cases c3 : x.f0 = 3
          · rw [kindB_3 c3]; refine ev_if_pos c3 ?_; simp only [l1In_f, Option.bind_some]; exact Ev.now _
          · refine ev_if_neg c3 ?_
            by_cases c4 : x.f0 = 4
            · rw [kindB_45 (.inl c4)]; exact ev_if_pos c4 (ev_some (by first | rfl | (rw [Bool.eq_iff_iff]; simp; done) | (rw [Bool.eq_iff_iff]; simp)))
            · refine ev_if_neg c4 ?_
              by_cases c5 : x.f0 = 5
              · rw [kindB_45 (.inr c5)]; exact ev_if_pos c5 (ev_some (by first | rfl | (rw [Bool.eq_iff_iff]; simp; done) | (rw [Bool.eq_iff_iff]; simp)))
              · rw [kindB_no c c3 (by omega)]; exact ev_if_neg c5 (Ev.now _)
      exact ev_if (fun c => key _ (by simp [c])) (fun c => key _ (by simp [c]))
theorem names6 (x : ITerm) (hv : wfStrs x.f2) (hk : x.f1.size ≤ 9223372036854775807) (c : Bool) (hc : c = true → x.f2.length ≤ 6) (he : c = kindB x.f0 x.f2.length) :
    Ev (fun k => if c = true then (impl_NameOk.f k x.f1).bind fun t => (if t = true then ((impl_namesOk.f k x.f2 6).bind fun u => (some u)) else (some false)) else some false) (termB x) := by
  unfold termB
  rw [← he]
  cases c with
  | false => refine ev_if_neg (by simp) (ev_some (by simp))
  | true =>
    refine ev_if_pos rfl (Ev.bind (implNameOk_ev _ hk) ?_)
    cases nameB x.f1 with
    | false => exact ev_if_neg (by simp) (ev_some (by simp))
    | true => exact ev_if_pos rfl (Ev.bind (namesOk_ev _ 6 hv) (ev_some (by rw [decide_eq_true (by have := hc rfl; omega)]; simp)))
theorem termOk_ev (x : ITerm) (h : wfITerm x) : Ev (fun k => impl_termOk.f k x.f0 x.f1 x.f2) (termB x) := by
  obtain ⟨hk, hv⟩ := h
  have fin : ∀ (p : Prop) [Decidable p], (p ↔ kindB x.f0 x.f2.length = true) → Ev (fun k => if p then (impl_NameOk.f k x.f1).bind fun t => (if t = true then ((impl_namesOk.f k x.f2 6).bind fun u => (some u)) else (some false)) else some false) (termB x) := by
    intro p _ hp
    have := names6 x hv hk (decide p) (fun hc => by have := kindB_le (hp.1 (of_decide_eq_true hc)); omega) (by rw [Bool.eq_iff_iff, decide_eq_true_iff]; exact hp)
    simpa only [decide_eq_true_eq] using this
  have no : kindB x.f0 x.f2.length = false → termB x = false := by intro h; unfold termB; rw [h]; simp
  have j1 : ∀ b : Bool, b = (x.f0 == 4 || x.f0 == 5) → ¬ (x.f0 = 1 ∨ x.f0 = 2) → x.f0 ≠ 3 → Ev (fun k => impl_termOk.j1 k x.f2.length false b x.f0 x.f1 x.f2) (termB x) := by
    intro b hb c1 c3
    refine Ev.step (fun k => by rw [impl_termOk.j1]) ?_
    cases b with
    | true =>
      refine ev_if_pos rfl (fin _ ?_)
      rw [kindB_45 (by simpa using hb.symm)]; simp
    | false =>
      refine ev_if_neg (by simp) (ev_if_neg (by simp) (ev_some (no ?_).symm))
      exact kindB_no c1 c3 (by simpa using hb.symm)
  have j0 : ∀ b : Bool, b = (x.f0 == 1 || x.f0 == 2) → Ev (fun k => impl_termOk.j0 k x.f2.length false x.f0 b x.f0 x.f1 x.f2) (termB x) := by
    intro b hb
    refine Ev.step (fun k => by rw [impl_termOk.j0]) ?_
    cases b with
    | true =>
      refine ev_if_pos rfl (fin _ ?_)
      rw [kindB_12 (by simpa using hb.symm)]; simp
    | false =>
      have c1 : ¬ (x.f0 = 1 ∨ x.f0 = 2) := by simpa using hb.symm
      refine ev_if_neg (by simp) ?_
      by_cases c3 : x.f0 = 3
      · refine ev_if_pos c3 ?_
        by_cases c6 : x.f2.length ≤ 6
        · refine fin _ ?_
          rw [kindB_3 c3]; unfold inB; rw [decide_eq_true_iff]; omega
        · have hno : termB x = false := no (by rw [kindB_3 c3]; unfold inB; rw [decide_eq_false_iff_not]; omega)
          rw [hno]
          refine ev_if_pos (by omega) (Ev.bind (implNameOk_ev _ hk) (ev_if (fun _ => Ev.bind (namesOk_ev _ 6 hv) (ev_some ?_)) (fun _ => Ev.now _)))
          rw [decide_eq_false (by omega : ¬ ((x.f2.length : Int) ≤ 6)), Bool.and_false]
      · refine ev_if_neg c3 ?_
        exact ev_if (fun c => j1 _ (by simp [c]) c1 c3) (fun c => j1 _ (by simp [c]) c1 c3)
  unfold impl_termOk.f
  exact ev_if (fun c => j0 _ (by simp [c])) (fun c => j0 _ (by simp [c]))
def wfITerms (xs : List ITerm) : Prop := xs.length ≤ 9223372036854775807 ∧ ∀ x ∈ xs, wfITerm x
def selB (xs : List ITerm) : Bool := allN xs.length (fun i => termB (rd_T52 xs i)) && decide ((xs.length : Int) ≤ 8)
theorem specSelectorOk_ev (xs : List ITerm) (h : wfITerms xs) : Ev (fun k => spec_SelectorOk.f k xs) (selB xs) := by
  unfold spec_SelectorOk.f selB
  refine loop_all (g := fun k i => spec_SelectorOk.l0 k xs i) xs.length _ _ ?_ ?_ ?_
  · intro i hi hok r hr
    refine Ev.step (fun k => by rw [spec_SelectorOk.l0]) ?_
    simp only [wsucc hi h.1]
    exact ev_if_pos (by omega) (ev_if_pos (by omega) (Ev.bind (l2Term_ev _ (by rw [rdIT hi]; exact h.2 _ (List.getElem_mem hi))) (ev_if_pos hok hr)))
  · intro i hi hok
    refine Ev.step (fun k => by rw [spec_SelectorOk.l0]) ?_
    exact ev_if_pos (by omega) (ev_if_pos (by omega) (Ev.bind (l2Term_ev _ (by rw [rdIT hi]; exact h.2 _ (List.getElem_mem hi))) (ev_if_neg (by rw [hok]; simp) (Ev.now _))))
  · exact Ev.step (fun k => by rw [spec_SelectorOk.l0]) (ev_if_neg (by omega) (Ev.now _))
/-- A search by a test that is answered: from some number of rounds on. -/
theorem idxO_ev {α : Type} {p : Nat → α → Option Bool} {q : α → Bool} : ∀ (l : List α) (i : Nat), (∀ x ∈ l, Ev (fun k => p k x) (q x)) → ∃ r, Ev (fun k => idxO (p k) l i) r ∧ (decide (0 ≤ r) = l.any q)
  | [], i, _ => ⟨-1, Ev.now _, by simp⟩
  | x :: xs, i, h => by
    have hx := h x (by simp)
    cases hq : q x with
    | true =>
      rw [hq] at hx
      exact ⟨i, Ev.congr (fun k => by rw [idxO]) (Ev.bind (f := fun k t => if t = true then some (i : Int) else idxO (p k) xs (i + 1)) hx (ev_if_pos rfl (Ev.now _))), by rw [List.any_cons, hq, Bool.true_or]; exact decide_eq_true (by omega)⟩
    | false =>
      rw [hq] at hx
      obtain ⟨r, hr, he⟩ := idxO_ev xs (i + 1) (fun y hy => h y (by simp [hy]))
      exact ⟨r, Ev.congr (fun k => by rw [idxO]) (Ev.bind (f := fun k t => if t = true then some (i : Int) else idxO (p k) xs (i + 1)) hx (ev_if_neg Bool.false_ne_true hr)), by rw [List.any_cons, hq, Bool.false_or, he]⟩
theorem any_allN {α : Type} (xs : List α) (q : α → Bool) (rd : Nat → α) (hrd : ∀ i (h : i < xs.length), rd i = xs[i]) : (!xs.any (fun x => !q x)) = allN xs.length (fun i => q (rd i)) := by
  rw [Bool.eq_iff_iff, allN_true]
  simp only [Bool.not_eq_true', List.any_eq_false]
  constructor
  · intro h i hi
    rw [hrd i hi]
    simpa using h _ (List.getElem_mem hi)
  · intro h x hx
    obtain ⟨i, hi, rfl⟩ := List.getElem_of_mem hx
    have := h i hi
    rw [hrd i hi] at this
    simp [this]
theorem implSelectorOk_ev (xs : List ITerm) (h : wfITerms xs) : Ev (fun k => impl_SelectorOk.f k xs) (selB xs) := by
  unfold impl_SelectorOk.f selB
  by_cases hl : xs.length ≤ 8
  · rw [decide_eq_true (by omega), Bool.and_true]
    refine ev_if_pos hl ?_
    obtain ⟨r, hr, he⟩ := idxO_ev (p := fun k (x : ITerm) => impl_SelectorOk_1.f k x.f0 x.f1 x.f2) (q := fun x => !termB x) xs 0 (fun x hx => by
      unfold impl_SelectorOk_1.f
      exact Ev.bind (termOk_ev x (h.2 x hx)) (Ev.now _))
    refine Ev.bind hr (ev_some ?_)
    rw [he, any_allN xs termB (fun i => rd_T52 xs i) (fun i hi => rdIT hi)]
  · rw [decide_eq_false (by omega), Bool.and_false]
    exact ev_if_neg hl (Ev.now _)
def wfLTerms (xs : List LTerm) : Prop := xs.length ≤ 9223372036854775807 ∧ ∀ x ∈ xs, wfTerm x
theorem terms_small {xs : List LTerm} {left : Int} (h1 : left ≤ 1048576) (h : 0 ≤ szR left (totTerms xs)) : xs.length ≤ 1048576 ∧ (∀ x ∈ xs, smTerm x) := by
  have h := szR_nonneg h
  unfold totTerms at h
  refine ⟨by omega, fun x hx => ?_⟩
  have := le_sum_map totTerm hx
  have h2 : totTerm x = x.f1.size + (x.f2.length + (x.f2.map ByteArray.size).sum) := rfl
  unfold smTerm; omega
theorem wfITerms_of {xs : List LTerm} (h : wfLTerms xs) : wfITerms (xs.map cTerm) := by
  refine ⟨by simpa using h.1, fun y hy => ?_⟩
  obtain ⟨x, hx, rfl⟩ := List.mem_map.1 hy
  obtain ⟨_, a, b⟩ := h.2 x hx
  exact ⟨a, b⟩
end Go.Proofs.Ytpjpnppoejnafaa.G

/- G44 -/
-- Laid by wip/g/gprint.py out of the translation, by the kit's print program. Lean checks it.
namespace Go.Proofs.Ytpjpnppoejnafaa.G
open Go.RowKit Go.Proofs.YtpjpnppoejnafaaW.PrintWords Go.Proofs.YtpjpnppoejnafaaW.PrintLast Go.Proofs.YtpjpnppoejnafaaW.PrintMore
attribute [local go_sem] max2_int min2_int max_two min_two max_three min_three max_four min_four   -- for this text's walks alone
set_option linter.unusedVariables false
set_option linter.unusedSimpArgs false

/-! ### strings_Join: function 44 -/
--IMPORT Derived.Test.YtpjpnppoejnafaaShelf
def strings_Join.f (l0 : List ByteArray) (a1 : ByteArray) : Option ByteArray :=
  if l0.length ≤ 140737488355328 ∧ (Lib.join (l0.map (·.data.toList)) a1.data.toList).length ≤ 140737488355328 then some ⟨(Lib.join (l0.map (·.data.toList)) a1.data.toList).toArray⟩ else none
theorem strings_Join.calls (A0 : Option Addr) (c0 : Nat) (l0 : List ByteArray) (a1 : ByteArray) (r : ByteArray) (w : World) (hr0 : Kd.C Kd.string w A0 l0.length l0) (hc0 : l0.length ≤ c0) (h : strings_Join.f l0 a1 = some r) :
    Calls Try.prog 44 #[.slice A0 l0.length c0, .string a1] w fun e w' => e = .returned (.string r) ∧ Below w.heap.size w w' := by
  unfold strings_Join.f at h
  by_cases hl : l0.length ≤ 140737488355328 ∧ (Lib.join (l0.map (·.data.toList)) a1.data.toList).length ≤ 140737488355328
  · rw [if_pos hl] at h
    obtain rfl := Option.some.inj h
    rcases Nat.eq_zero_or_pos l0.length with h0 | h0
    · obtain rfl := List.eq_nil_of_length_eq_zero h0
      refine (Try.strings_Join_none A0 c0 a1 w).mono ?_
      rintro e w' ⟨rfl, rfl⟩
      exact ⟨rfl, Below.refl _ _⟩
    · obtain ⟨bk, o, rfl, hlt, hcells⟩ := C_cells (f := Value.string) (dflt := ByteArray.empty) (Kd.reads_of_C hr0) h0
      exact Try.strings_Join bk o c0 l0 a1 w hcells hlt hl.1 hc0 hl.2
  · rw [if_neg hl] at h
    cases h

end Go.Proofs.Ytpjpnppoejnafaa.G

/- PJoin -/
/-
  Joined strings: strings.Join, piece by piece.
-/
namespace Go.Proofs.Ytpjpnppoejnafaa.G
open Go.RowKit Go.Proofs.YtpjpnppoejnafaaW.PrintWords Go.Proofs.YtpjpnppoejnafaaW.PrintLast Go.Proofs.YtpjpnppoejnafaaW.PrintMore
set_option linter.unusedVariables false
def jn (xs : List ByteArray) (sep : ByteArray) : ByteArray := ⟨(Lib.join (xs.map (·.data.toList)) sep.data.toList).toArray⟩
theorem join_snoc (x s : List UInt8) : ∀ (ys : List (List UInt8)), Lib.join (ys ++ [x]) s = if ys = [] then x else Lib.join ys s ++ s ++ x
  | [] => by rw [if_pos rfl]; exact Lib.join_one x s
  | y :: ys => by
    rw [if_neg (by simp), List.cons_append, Lib.join_cons, Lib.join_cons]
    simp [Lib.joinTail, List.append_assoc]
theorem ba_eq {a b : ByteArray} (h : a.data.toList = b.data.toList) : a = b := by
  cases a; cases b; simp only at h; congr 1; exact Array.toList_inj.1 h
theorem jn_snoc (ys : List ByteArray) (x s : ByteArray) (h : ys ≠ []) : jn (ys ++ [x]) s = jn ys s ++ s ++ x := by
  apply ba_eq
  unfold jn
  rw [List.map_append, List.map_cons, List.map_nil, join_snoc, if_neg (by simpa using h)]
  simp [ByteArray.data_append]
theorem jn_one (x s : ByteArray) : jn [x] s = x := by
  apply ba_eq
  unfold jn
  rw [List.map_cons, List.map_nil, Lib.join_one]
theorem jn_nil (s : ByteArray) : jn [] s = ⟨#[]⟩ := rfl
theorem jn_size (s : ByteArray) (m : Nat) (hs : s.size ≤ m) : ∀ (xs : List ByteArray) (b : Nat), (∀ x ∈ xs, x.size ≤ b) → (jn xs s).size ≤ xs.length * (b + m) := by
  intro xs b h
  have key : ∀ n, ∀ ys : List ByteArray, ys.length = n → (∀ x ∈ ys, x.size ≤ b) → (jn ys s).size ≤ n * (b + m) := by
    intro n
    induction n with
    | zero => intro ys h0 _; obtain rfl := List.eq_nil_of_length_eq_zero h0; simp [jn_nil, ByteArray.size]
    | succ n ih =>
      intro ys hl hb
      obtain ⟨zs, z, rfl⟩ : ∃ zs z, ys = zs ++ [z] := ⟨ys.dropLast, ys.getLast (by intro h; rw [h] at hl; simp at hl), (List.dropLast_concat_getLast _).symm⟩
      have hzl : zs.length = n := by simpa using hl
      have hz := hb z (by simp)
      have e : (n + 1) * (b + m) = n * (b + m) + (b + m) := Nat.succ_mul _ _
      rcases List.eq_nil_or_concat zs with h0 | ⟨_, _, h0⟩
      · subst h0; rw [List.nil_append, jn_one]; omega
      · rw [jn_snoc zs z s (by rw [h0]; simp), ByteArray.size_append, ByteArray.size_append]
        have := ih zs hzl (fun x hx => hb x (by simp [hx]))
        omega
  exact key _ xs rfl h
theorem join_f (xs : List ByteArray) (s : ByteArray) (h : xs.length ≤ 140737488355328) (h' : (jn xs s).size ≤ 140737488355328) : strings_Join.f xs s = some (jn xs s) := by
  unfold strings_Join.f
  have e : (Lib.join (xs.map (·.data.toList)) s.data.toList).length = (jn xs s).size := by unfold jn ByteArray.size; simp
  rw [if_pos ⟨h, by rw [e]; exact h'⟩]; rfl
/-- A loop that writes the pieces behind a start, with a sign between them. -/
theorem jn_take_succ (xs : List ByteArray) (s a : ByteArray) {i : Nat} (hi : i < xs.length) : a ++ jn (xs.take (i + 1)) s = if 0 < i then (a ++ jn (xs.take i) s) ++ s ++ xs[i] else a ++ xs[i] := by
  rw [List.take_succ_eq_append_getElem hi]
  by_cases c : 0 < i
  · rw [if_pos c, jn_snoc _ _ _ (by intro h; have := congrArg List.length h; rw [List.length_take, List.length_nil] at this; omega)]
    simp only [ByteArray.append_assoc]
  · obtain rfl : i = 0 := by omega
    rw [if_neg (by omega), List.take_zero, List.nil_append, jn_one]
end Go.Proofs.Ytpjpnppoejnafaa.G
