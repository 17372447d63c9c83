import Derived.Test.YtpjpnppoejnafaaDoorMFnSelectorsCard1
import Derived.Test.YtpjpnppoejnafaaDoorMFnSelectorsCard2
import Derived.Test.YtpjpnppoejnafaaDoorMFnSelectorsCard6
/- G67 -/
-- Laid by wip/g/gprint.py out of the translation, by the kit's print program. Lean checks it.
namespace Go.Proofs.YtpjpnppoejnafaaDoor.G
open Go.RowKit Go.Proofs.YtpjpnppoejnafaaDoorW.PrintWords Go.Proofs.YtpjpnppoejnafaaDoorW.PrintLast Go.Proofs.YtpjpnppoejnafaaDoorW.PrintMore
attribute [local go_sem] max2_int min2_int max_two min_two max_three min_three max_four min_four   -- for this text's walks alone
set_option linter.unusedVariables false
set_option linter.unusedSimpArgs false

/-! ### spec_l2Term: function 67 -/
mutual
def spec_l2Term.l0 : Nat → Int → Int → Int → ByteArray → List ByteArray → Option (Bool)
 | 0, _, _, _, _, _ => none
 | k + 1, x3, x4, x208000, x208001, x208002 => if x4 < x3 then (if 0 ≤ x4 then (if x4 < (x208002.length : Int) then ((spec_NameOk.f k (rdOf ByteArray.empty x208002 x4)).bind fun t209 => (if t209 = true then (if x4 > 0 then (if 0 ≤ (wrap64 (x4 - 1)) then (if (wrap64 (x4 - 1)) < (x208002.length : Int) then (if ((Op.bytesLess ((rdOf ByteArray.empty x208002 (wrap64 (x4 - 1))).toList) ((rdOf ByteArray.empty x208002 x4).toList)) = true) then (spec_l2Term.l0 k x3 (wrap64 (x4 + 1)) x208000 x208001 x208002) else (some false)) else (none)) else (none)) else (spec_l2Term.l0 k x3 (wrap64 (x4 + 1)) x208000 x208001 x208002)) else (some false))) else (none)) else (none)) else ((spec_NameOk.f k x208001).bind fun t212 => (if t212 = true then (if x208000 = 1 then (spec_l2Term.j1 k x3 x208000 (x208000 == 1)) else (spec_l2Term.j1 k x3 x208000 (x208000 == 2))) else (some false)))
def spec_l2Term.j1 : Nat → Int → Int → Bool → Option (Bool)
 | 0, _, _, _ => none
 | k + 1, x3, x43, x44 => if x44 = true then (some (x3 == 1)) else (if x43 = 3 then ((spec_l1In.f x3 1 6).bind fun t213 => (some t213)) else (if x43 = 4 then (some (x3 == 0)) else (if x43 = 5 then (some (x3 == 0)) else (some false))))
end
def spec_l2Term.f (k : Nat) (a0_0 : Int) (a0_1 : ByteArray) (l0_2 : List ByteArray) : Option (Bool) := spec_l2Term.l0 k (l0_2.length : Int) 0 a0_0 a0_1 l0_2
set_option maxHeartbeats 8000000 in
set_option maxRecDepth 100000 in
theorem spec_l2Term.calls (k : Nat) (a0_0 : Int) (a0_1 : ByteArray) (A0_2 : Option Addr) (c0_2 : Nat) (l0_2 : List ByteArray) (r : Bool) (w : World) (hr0_2 : Kd.C Kd.string w A0_2 l0_2.length l0_2) (hc0_2 : l0_2.length ≤ c0_2) (h : spec_l2Term.f k a0_0 a0_1 l0_2 = some r) :
  Calls Tryd.prog 67 #[.agg #[.int .i64 a0_0, .string a0_1, .slice A0_2 l0_2.length c0_2]] w fun e w' => e = .returned (.bool r) ∧ Below w.heap.size w w' := by
 have hu59 := Tryd.underlying59
 have HR0_2 := Aside0.mk hr0_2
 have HC0_2 := Aside0.mk hc0_2
 clear hr0_2 hc0_2
 have HB := Aside0.mk (Below.refl w.heap.size w)
 unfold spec_l2Term.f at h; have H := h
 clear h
 have H' := Aside0.mk H
 clear H
 go_enter Tryd.func67, Tryd.ntmps67
 go_wp2_with (first | ((with_reducible refine gate_dst (N := 1) rfl ?_); refine box_event ?hg (N := 1) ?hd (cs := #[.int .i64 a0_0, .string a0_1, .slice A0_2 l0_2.length c0_2]) (t := 59) ?hr ?_; (case hd => rfl); (case hg => rfl); (case hr => go_simp); intro gb207 hg w2 hbox hb; have n0_ := Aside0.mk (below_step (qB HB) hb); have n1_ := Aside0.mk (hbox); have n2_ := Aside0.mk (qG HB hg); have n3_ := Aside0.mk (qG HB hg); clear HB; have HB := n0_; have BK207 := n1_; have GW207 := n2_; have GE207 := n3_; clear n0_ n1_ n2_ n3_; clear hb hbox hg; obtain ⟨hcz3_0, hcz3_1, hcz3_2, hfz3_0, hfz3_1, hfz3_2⟩ := blk3 BK207))
 go_loopg [4] k (fun kq v4 w' => ∃ (x4_1 : Int), v4 = .int .i64 x4_1 ∧ Aside0 (spec_l2Term.l0 kq (l0_2.length : Int) x4_1 a0_0 a0_1 l0_2 = some r) ∧ Aside0 (kq ≤ k) ∧ Aside0 (w'.heap[gb207]? = some (.cells #[.int .i64 a0_0, .string a0_1, (.slice A0_2 l0_2.length c0_2)] 59 (0, 0))) ∧ Aside0 (Below w.heap.size w w'))
 case atStart => exact ⟨(0), (by first | rfl | (simp; done) | (simp [*]; done)), H', ⟨Nat.le_refl _⟩, ⟨qK BK207⟩, ⟨qB HB⟩⟩
 case round =>
  clear H'
  try clear p2
  try clear hcz3_0
  try clear hcz3_1
  try clear hcz3_2
  try clear hfz3_0
  try clear hfz3_1
  try clear hfz3_2
  obtain ⟨x4_1, rfl, HA, HK1, BK207, HB⟩ := hrel
  cases gk with
  | zero => exact absurd HA.out (by simp [spec_l2Term.l0])
  | succ k1 =>
   have H := HA.out
   clear HA
   simp only [spec_l2Term.l0] at H
   by_cases c4 : x4_1 < (l0_2.length : Int)
   ·rw [if_pos c4] at H
    have c4b0 : decide (x4_1 < (l0_2.length : Int)) = true := decide_eq_true c4
    clear c4
    by_cases c5 : 0 ≤ x4_1
    ·rw [if_pos c5] at H
     have c5b0 : decide (0 ≤ x4_1) = true := decide_eq_true c5
     clear c5
     by_cases c6 : x4_1 < (l0_2.length : Int)
     ·rw [if_pos c6] at H
      have c6b0 : decide (x4_1 < (l0_2.length : Int)) = true := decide_eq_true c6
      clear c6
      replace H := Option.bind_eq_some_iff.mp H
      obtain ⟨t209, A70, H⟩ := H
      try dsimp only at H
      have A7 := Aside0.mk A70
      clear A70
      by_cases c8 : t209 = true
      ·subst c8
       have H1 : (if x4_1 > 0 then (if 0 ≤ (wrap64 (x4_1 - 1)) then (if (wrap64 (x4_1 - 1)) < (l0_2.length : Int) then (if ((Op.bytesLess ((rdOf ByteArray.empty l0_2 (wrap64 (x4_1 - 1))).toList) ((rdOf ByteArray.empty l0_2 x4_1).toList)) = true) then (spec_l2Term.l0 k1 (l0_2.length : Int) (wrap64 (x4_1 + 1)) a0_0 a0_1 l0_2) else (some false)) else (none)) else (none)) else (spec_l2Term.l0 k1 (l0_2.length : Int) (wrap64 (x4_1 + 1)) a0_0 a0_1 l0_2)) = some r := by rw [if_pos rfl] at H; exact H
       clear H
       have H := H1
       clear H1
       by_cases c9 : x4_1 > 0
       ·rw [if_pos c9] at H
        have c9b0 : decide (0 < x4_1) = true := decide_eq_true c9
        clear c9
        obtain ⟨ji10, hji10⟩ : ∃ j_ : Int, (wrap64 (x4_1 - 1)) = j_ := ⟨_, rfl⟩
        replace H : (if 0 ≤ (ji10) then (if (ji10) < (l0_2.length : Int) then (if ((Op.bytesLess ((rdOf ByteArray.empty l0_2 (ji10)).toList) ((rdOf ByteArray.empty l0_2 x4_1).toList)) = true) then (spec_l2Term.l0 k1 (l0_2.length : Int) (wrap64 (x4_1 + 1)) a0_0 a0_1 l0_2) else (some false)) else (none)) else (none)) = some r := by first | (rw [hji10] at H; exact H) | (simp only [hji10] at H ⊢; exact H)
        (try rw [hji10] at A7)
        have hji10w : (IntKind.i64.wrap (x4_1 - 1)) = ji10 := (i64_w _).trans hji10
        by_cases c11 : 0 ≤ (ji10)
        ·rw [if_pos c11] at H
         have c11b0 : decide (0 ≤ (ji10)) = true := decide_eq_true c11
         clear c11
         by_cases c12 : (ji10) < (l0_2.length : Int)
         ·rw [if_pos c12] at H
          have c12b0 : decide ((ji10) < (l0_2.length : Int)) = true := decide_eq_true c12
          clear c12
          by_cases c13 : ((Op.bytesLess ((rdOf ByteArray.empty l0_2 (ji10)).toList) ((rdOf ByteArray.empty l0_2 x4_1).toList)) = true)
          ·rw [if_pos c13] at H
           have c13b0 : (Op.bytesLess ((rdOf ByteArray.empty l0_2 (ji10)).toList) ((rdOf ByteArray.empty l0_2 x4_1).toList)) = true := c13
           clear c13
           have H' := Aside0.mk H
           clear H
           obtain ⟨hcz14_0, hcz14_1, hcz14_2, hfz14_0, hfz14_1, hfz14_2⟩ := blk3 BK207
           have p208 : 0 ≤ (x4_1 : Int) := of_decide_eq_true (by first | (with_reducible assumption) | assumption)
           have q208 : x4_1 < (l0_2.length : Int) := of_decide_eq_true (by first | (with_reducible assumption) | assumption)
           obtain ⟨ad208, e208, hx208_0⟩ := Kd.at_string HR0_2.out x4_1 p208 q208
           cases e208
           replace hx208_0 := (HB.out.cell (World.block_lt_of_cell? w _ hx208_0)).trans hx208_0
           replace p208 := eq_true p208
           replace q208 := eq_true q208
           go_wp2_with (first | (go_at_call 55; (with_reducible refine (spec_NameOk.calls k1 (rdOf ByteArray.empty l0_2 x4_1) true _ A7.out).mono ?_); rintro e w' ⟨rfl, ⟨nd, rfl⟩⟩; have p210 : 0 ≤ ((ji10) : Int) := of_decide_eq_true (by first | (with_reducible assumption) | assumption); have q210 : (ji10) < (l0_2.length : Int) := of_decide_eq_true (by first | (with_reducible assumption) | assumption); obtain ⟨ad210, e210, hx210_0⟩ := Kd.at_string HR0_2.out (ji10) p210 q210; obtain rfl : ad208 = ad210 := (by injection e210); replace hx210_0 := (HB.out.cell (World.block_lt_of_cell? w _ hx210_0)).trans hx210_0; replace p210 := eq_true p210; replace q210 := eq_true q210; have p211 : 0 ≤ (x4_1 : Int) := of_decide_eq_true (by first | (with_reducible assumption) | assumption); have q211 : x4_1 < (l0_2.length : Int) := of_decide_eq_true (by first | (with_reducible assumption) | assumption); obtain ⟨ad211, e211, hx211_0⟩ := Kd.at_string HR0_2.out x4_1 p211 q211; obtain rfl : ad208 = ad211 := (by injection e211); replace hx211_0 := (HB.out.cell (World.block_lt_of_cell? w _ hx211_0)).trans hx211_0; replace p211 := eq_true p211; replace q211 := eq_true q211))
           repeat (go_quiet (first | (go_at_call 55; (with_reducible refine (spec_NameOk.calls k1 (rdOf ByteArray.empty l0_2 x4_1) true _ A7.out).mono ?_); rintro e w' ⟨rfl, ⟨nd, rfl⟩⟩; (try first | exact ⟨rfl, _, World.drewN_drewN _ _ _⟩ | exact ⟨rfl, _, Eq.trans (World.drewN_drewN _ _ _) (congrArg (World.drewN _) (Nat.add_assoc _ _ _))⟩); have p210 : 0 ≤ ((ji10) : Int) := of_decide_eq_true (by first | (with_reducible assumption) | assumption); have q210 : (ji10) < (l0_2.length : Int) := of_decide_eq_true (by first | (with_reducible assumption) | assumption); obtain ⟨ad210, e210, hx210_0⟩ := Kd.at_string HR0_2.out (ji10) p210 q210; obtain rfl : ad208 = ad210 := (by injection e210); replace hx210_0 := (HB.out.cell (World.block_lt_of_cell? w _ hx210_0)).trans hx210_0; replace p210 := eq_true p210; replace q210 := eq_true q210; have p211 : 0 ≤ (x4_1 : Int) := of_decide_eq_true (by first | (with_reducible assumption) | assumption); have q211 : x4_1 < (l0_2.length : Int) := of_decide_eq_true (by first | (with_reducible assumption) | assumption); obtain ⟨ad211, e211, hx211_0⟩ := Kd.at_string HR0_2.out x4_1 p211 q211; obtain rfl : ad208 = ad211 := (by injection e211); replace hx211_0 := (HB.out.cell (World.block_lt_of_cell? w _ hx211_0)).trans hx211_0; replace p211 := eq_true p211; replace q211 := eq_true q211)); try go_wp2_with (first | (go_at_call 55; (with_reducible refine (spec_NameOk.calls k1 (rdOf ByteArray.empty l0_2 x4_1) true _ A7.out).mono ?_); rintro e w' ⟨rfl, ⟨nd, rfl⟩⟩; (try first | exact ⟨rfl, _, World.drewN_drewN _ _ _⟩ | exact ⟨rfl, _, Eq.trans (World.drewN_drewN _ _ _) (congrArg (World.drewN _) (Nat.add_assoc _ _ _))⟩); have p210 : 0 ≤ ((ji10) : Int) := of_decide_eq_true (by first | (with_reducible assumption) | assumption); have q210 : (ji10) < (l0_2.length : Int) := of_decide_eq_true (by first | (with_reducible assumption) | assumption); obtain ⟨ad210, e210, hx210_0⟩ := Kd.at_string HR0_2.out (ji10) p210 q210; obtain rfl : ad208 = ad210 := (by injection e210); replace hx210_0 := (HB.out.cell (World.block_lt_of_cell? w _ hx210_0)).trans hx210_0; replace p210 := eq_true p210; replace q210 := eq_true q210; have p211 : 0 ≤ (x4_1 : Int) := of_decide_eq_true (by first | (with_reducible assumption) | assumption); have q211 : x4_1 < (l0_2.length : Int) := of_decide_eq_true (by first | (with_reducible assumption) | assumption); obtain ⟨ad211, e211, hx211_0⟩ := Kd.at_string HR0_2.out x4_1 p211 q211; obtain rfl : ad208 = ad211 := (by injection e211); replace hx211_0 := (HB.out.cell (World.block_lt_of_cell? w _ hx211_0)).trans hx211_0; replace p211 := eq_true p211; replace q211 := eq_true q211)))
           go_roundg k1
           case measure => have := HK1.out; omega
           case rel => exact ⟨(wrap64 (x4_1 + 1)), (by first | rfl | (simp; done) | (simp [*]; done)), H', ⟨by have := HK1.out; omega⟩, ⟨qK BK207⟩, ⟨qB HB⟩⟩
          ·rw [if_neg c13] at H
           have c13b0 : (Op.bytesLess ((rdOf ByteArray.empty l0_2 (ji10)).toList) ((rdOf ByteArray.empty l0_2 x4_1).toList)) = false := by simpa using c13
           clear c13
           obtain rfl := Option.some.inj H
           obtain ⟨hcz15_0, hcz15_1, hcz15_2, hfz15_0, hfz15_1, hfz15_2⟩ := blk3 BK207
           have p208 : 0 ≤ (x4_1 : Int) := of_decide_eq_true (by first | (with_reducible assumption) | assumption)
           have q208 : x4_1 < (l0_2.length : Int) := of_decide_eq_true (by first | (with_reducible assumption) | assumption)
           obtain ⟨ad208, e208, hx208_0⟩ := Kd.at_string HR0_2.out x4_1 p208 q208
           cases e208
           replace hx208_0 := (HB.out.cell (World.block_lt_of_cell? w _ hx208_0)).trans hx208_0
           replace p208 := eq_true p208
           replace q208 := eq_true q208
           go_wp2_with (first | (go_at_call 55; (with_reducible refine (spec_NameOk.calls k1 (rdOf ByteArray.empty l0_2 x4_1) true _ A7.out).mono ?_); rintro e w' ⟨rfl, ⟨nd, rfl⟩⟩; have p210 : 0 ≤ ((ji10) : Int) := of_decide_eq_true (by first | (with_reducible assumption) | assumption); have q210 : (ji10) < (l0_2.length : Int) := of_decide_eq_true (by first | (with_reducible assumption) | assumption); obtain ⟨ad210, e210, hx210_0⟩ := Kd.at_string HR0_2.out (ji10) p210 q210; obtain rfl : ad208 = ad210 := (by injection e210); replace hx210_0 := (HB.out.cell (World.block_lt_of_cell? w _ hx210_0)).trans hx210_0; replace p210 := eq_true p210; replace q210 := eq_true q210; have p211 : 0 ≤ (x4_1 : Int) := of_decide_eq_true (by first | (with_reducible assumption) | assumption); have q211 : x4_1 < (l0_2.length : Int) := of_decide_eq_true (by first | (with_reducible assumption) | assumption); obtain ⟨ad211, e211, hx211_0⟩ := Kd.at_string HR0_2.out x4_1 p211 q211; obtain rfl : ad208 = ad211 := (by injection e211); replace hx211_0 := (HB.out.cell (World.block_lt_of_cell? w _ hx211_0)).trans hx211_0; replace p211 := eq_true p211; replace q211 := eq_true q211))
           repeat (go_quiet (first | (go_at_call 55; (with_reducible refine (spec_NameOk.calls k1 (rdOf ByteArray.empty l0_2 x4_1) true _ A7.out).mono ?_); rintro e w' ⟨rfl, ⟨nd, rfl⟩⟩; (try first | exact ⟨rfl, _, World.drewN_drewN _ _ _⟩ | exact ⟨rfl, _, Eq.trans (World.drewN_drewN _ _ _) (congrArg (World.drewN _) (Nat.add_assoc _ _ _))⟩); have p210 : 0 ≤ ((ji10) : Int) := of_decide_eq_true (by first | (with_reducible assumption) | assumption); have q210 : (ji10) < (l0_2.length : Int) := of_decide_eq_true (by first | (with_reducible assumption) | assumption); obtain ⟨ad210, e210, hx210_0⟩ := Kd.at_string HR0_2.out (ji10) p210 q210; obtain rfl : ad208 = ad210 := (by injection e210); replace hx210_0 := (HB.out.cell (World.block_lt_of_cell? w _ hx210_0)).trans hx210_0; replace p210 := eq_true p210; replace q210 := eq_true q210; have p211 : 0 ≤ (x4_1 : Int) := of_decide_eq_true (by first | (with_reducible assumption) | assumption); have q211 : x4_1 < (l0_2.length : Int) := of_decide_eq_true (by first | (with_reducible assumption) | assumption); obtain ⟨ad211, e211, hx211_0⟩ := Kd.at_string HR0_2.out x4_1 p211 q211; obtain rfl : ad208 = ad211 := (by injection e211); replace hx211_0 := (HB.out.cell (World.block_lt_of_cell? w _ hx211_0)).trans hx211_0; replace p211 := eq_true p211; replace q211 := eq_true q211)); try go_wp2_with (first | (go_at_call 55; (with_reducible refine (spec_NameOk.calls k1 (rdOf ByteArray.empty l0_2 x4_1) true _ A7.out).mono ?_); rintro e w' ⟨rfl, ⟨nd, rfl⟩⟩; (try first | exact ⟨rfl, _, World.drewN_drewN _ _ _⟩ | exact ⟨rfl, _, Eq.trans (World.drewN_drewN _ _ _) (congrArg (World.drewN _) (Nat.add_assoc _ _ _))⟩); have p210 : 0 ≤ ((ji10) : Int) := of_decide_eq_true (by first | (with_reducible assumption) | assumption); have q210 : (ji10) < (l0_2.length : Int) := of_decide_eq_true (by first | (with_reducible assumption) | assumption); obtain ⟨ad210, e210, hx210_0⟩ := Kd.at_string HR0_2.out (ji10) p210 q210; obtain rfl : ad208 = ad210 := (by injection e210); replace hx210_0 := (HB.out.cell (World.block_lt_of_cell? w _ hx210_0)).trans hx210_0; replace p210 := eq_true p210; replace q210 := eq_true q210; have p211 : 0 ≤ (x4_1 : Int) := of_decide_eq_true (by first | (with_reducible assumption) | assumption); have q211 : x4_1 < (l0_2.length : Int) := of_decide_eq_true (by first | (with_reducible assumption) | assumption); obtain ⟨ad211, e211, hx211_0⟩ := Kd.at_string HR0_2.out x4_1 p211 q211; obtain rfl : ad208 = ad211 := (by injection e211); replace hx211_0 := (HB.out.cell (World.block_lt_of_cell? w _ hx211_0)).trans hx211_0; replace p211 := eq_true p211; replace q211 := eq_true q211)))
           go_ret
           exact ⟨by first | rfl | (simp [errW_none, errW_some] <;> rfl) | (simp only [← hji10]; first | rfl | (simp [errW_none, errW_some] <;> rfl)) | (simp [*, errW_none, errW_some] <;> rfl), by repeat (first | (with_reducible first | exact HB.out | apply below_alloc | apply pw_below_drewN | apply below_drew1 | refine below_set ?_ GE207.out) | exact HB.out)⟩
         ·rw [if_neg c12] at H
          exact absurd H (by simp)
        ·rw [if_neg c11] at H
         exact absurd H (by simp)
       ·rw [if_neg c9] at H
        have c9b0 : decide (0 < x4_1) = false := decide_eq_false c9
        clear c9
        have H' := Aside0.mk H
        clear H
        obtain ⟨hcz16_0, hcz16_1, hcz16_2, hfz16_0, hfz16_1, hfz16_2⟩ := blk3 BK207
        have p208 : 0 ≤ (x4_1 : Int) := of_decide_eq_true (by first | (with_reducible assumption) | assumption)
        have q208 : x4_1 < (l0_2.length : Int) := of_decide_eq_true (by first | (with_reducible assumption) | assumption)
        obtain ⟨ad208, e208, hx208_0⟩ := Kd.at_string HR0_2.out x4_1 p208 q208
        cases e208
        replace hx208_0 := (HB.out.cell (World.block_lt_of_cell? w _ hx208_0)).trans hx208_0
        replace p208 := eq_true p208
        replace q208 := eq_true q208
        go_wp2_with (first | (go_at_call 55; (with_reducible refine (spec_NameOk.calls k1 (rdOf ByteArray.empty l0_2 x4_1) true _ A7.out).mono ?_); rintro e w' ⟨rfl, ⟨nd, rfl⟩⟩))
        repeat (go_quiet (first | (go_at_call 55; (with_reducible refine (spec_NameOk.calls k1 (rdOf ByteArray.empty l0_2 x4_1) true _ A7.out).mono ?_); rintro e w' ⟨rfl, ⟨nd, rfl⟩⟩; (try first | exact ⟨rfl, _, World.drewN_drewN _ _ _⟩ | exact ⟨rfl, _, Eq.trans (World.drewN_drewN _ _ _) (congrArg (World.drewN _) (Nat.add_assoc _ _ _))⟩))); try go_wp2_with (first | (go_at_call 55; (with_reducible refine (spec_NameOk.calls k1 (rdOf ByteArray.empty l0_2 x4_1) true _ A7.out).mono ?_); rintro e w' ⟨rfl, ⟨nd, rfl⟩⟩; (try first | exact ⟨rfl, _, World.drewN_drewN _ _ _⟩ | exact ⟨rfl, _, Eq.trans (World.drewN_drewN _ _ _) (congrArg (World.drewN _) (Nat.add_assoc _ _ _))⟩))))
        go_roundg k1
        case measure => have := HK1.out; omega
        case rel => exact ⟨(wrap64 (x4_1 + 1)), (by first | rfl | (simp; done) | (simp [*]; done)), H', ⟨by have := HK1.out; omega⟩, ⟨qK BK207⟩, ⟨qB HB⟩⟩
      ·replace c8 := Bool.eq_false_iff.mpr c8
       subst c8
       have H1 : (some false) = some r := by rw [if_neg (show ¬ (false = true) by decide)] at H; exact H
       clear H
       have H := H1
       clear H1
       obtain rfl := Option.some.inj H
       obtain ⟨hcz17_0, hcz17_1, hcz17_2, hfz17_0, hfz17_1, hfz17_2⟩ := blk3 BK207
       have p208 : 0 ≤ (x4_1 : Int) := of_decide_eq_true (by first | (with_reducible assumption) | assumption)
       have q208 : x4_1 < (l0_2.length : Int) := of_decide_eq_true (by first | (with_reducible assumption) | assumption)
       obtain ⟨ad208, e208, hx208_0⟩ := Kd.at_string HR0_2.out x4_1 p208 q208
       cases e208
       replace hx208_0 := (HB.out.cell (World.block_lt_of_cell? w _ hx208_0)).trans hx208_0
       replace p208 := eq_true p208
       replace q208 := eq_true q208
       go_wp2_with (first | (go_at_call 55; (with_reducible refine (spec_NameOk.calls k1 (rdOf ByteArray.empty l0_2 x4_1) false _ A7.out).mono ?_); rintro e w' ⟨rfl, ⟨nd, rfl⟩⟩))
       repeat (go_quiet (first | (go_at_call 55; (with_reducible refine (spec_NameOk.calls k1 (rdOf ByteArray.empty l0_2 x4_1) false _ A7.out).mono ?_); rintro e w' ⟨rfl, ⟨nd, rfl⟩⟩; (try first | exact ⟨rfl, _, World.drewN_drewN _ _ _⟩ | exact ⟨rfl, _, Eq.trans (World.drewN_drewN _ _ _) (congrArg (World.drewN _) (Nat.add_assoc _ _ _))⟩))); try go_wp2_with (first | (go_at_call 55; (with_reducible refine (spec_NameOk.calls k1 (rdOf ByteArray.empty l0_2 x4_1) false _ A7.out).mono ?_); rintro e w' ⟨rfl, ⟨nd, rfl⟩⟩; (try first | exact ⟨rfl, _, World.drewN_drewN _ _ _⟩ | exact ⟨rfl, _, Eq.trans (World.drewN_drewN _ _ _) (congrArg (World.drewN _) (Nat.add_assoc _ _ _))⟩))))
       go_ret
       exact ⟨by first | rfl | (simp [errW_none, errW_some] <;> rfl) | (simp [*, errW_none, errW_some] <;> rfl), by repeat (first | (with_reducible first | exact HB.out | apply below_alloc | apply pw_below_drewN | apply below_drew1 | refine below_set ?_ GE207.out) | exact HB.out)⟩
     ·rw [if_neg c6] at H
      exact absurd H (by simp)
    ·rw [if_neg c5] at H
     exact absurd H (by simp)
   ·rw [if_neg c4] at H
    have c4b0 : decide (x4_1 < (l0_2.length : Int)) = false := decide_eq_false c4
    clear c4
    replace H := Option.bind_eq_some_iff.mp H
    obtain ⟨t212, A180, H⟩ := H
    try dsimp only at H
    have A18 := Aside0.mk A180
    clear A180
    by_cases c19 : t212 = true
    ·subst c19
     have H1 : (if a0_0 = 1 then (spec_l2Term.j1 k1 (l0_2.length : Int) a0_0 (a0_0 == 1)) else (spec_l2Term.j1 k1 (l0_2.length : Int) a0_0 (a0_0 == 2))) = some r := by rw [if_pos rfl] at H; exact H
     clear H
     have H := H1
     clear H1
     have HC20 := Aside0.mk H
     clear H
     obtain ⟨hcz21_0, hcz21_1, hcz21_2, hfz21_0, hfz21_1, hfz21_2⟩ := blk3 BK207
     go_upto_if 44 with (first | (go_at_call 55; (with_reducible refine (spec_NameOk.calls k1 a0_1 true _ A18.out).mono ?_); rintro e w' ⟨rfl, ⟨nd, rfl⟩⟩))
     (try simp only [Act.put, List.setIfInBounds_toArray, List.set_cons_zero, List.set_cons_succ])
     go_cut [44] (fun v44 wc => ∃ (kq : Nat) (x44_19 : Bool), v44 = .bool x44_19 ∧ Aside0 (spec_l2Term.j1 kq (l0_2.length : Int) a0_0 x44_19 = some r) ∧ Aside0 (kq ≤ k1) ∧ Aside0 (wc.heap[gb207]? = some (.cells #[.int .i64 a0_0, .string a0_1, (.slice A0_2 l0_2.length c0_2)] 59 (0, 0))) ∧ Aside0 (Below w.heap.size w wc))
     case first =>
      have H := HC20.out
      clear HC20
      by_cases c22 : a0_0 = 1
      ·rw [if_pos c22] at H
       have c22b0 : (a0_0 == 1) = true := beq_iff_eq.mpr c22
       have c22b1 : (a0_0 != 1) = false := bne_eq_false_iff_eq.mpr c22
       clear c22
       (first | rw [c22b0] | (simp only [i64_w, i32_w]; rw [c22b0]) | skip)
       have H' := Aside0.mk H
       clear H
       go_wp2
       repeat (go_quiet (fail); try go_wp2)
       go_meet
       case rel => exact ⟨_, ((a0_0 == 1)), (by first | rfl | (simp; done) | (simp [*]; done)), H', ⟨by have := HK1.out; first | omega | exact Nat.le_refl _⟩, ⟨qK BK207⟩, ⟨qB HB⟩⟩
      ·rw [if_neg c22] at H
       have c22b0 : (a0_0 == 1) = false := beq_eq_false_iff_ne.mpr c22
       have c22b1 : (a0_0 != 1) = true := bne_iff_ne.mpr c22
       (first | rw [c22b0] | (simp only [i64_w, i32_w]; rw [c22b0]) | skip)
       have H' := Aside0.mk H
       clear H
       go_wp2
       repeat (go_quiet (fail); try go_wp2)
       go_meet
       case rel => exact ⟨_, ((a0_0 == 2)), (by first | rfl | (simp; done) | (simp [*]; done)), H', ⟨by have := HK1.out; first | omega | exact Nat.le_refl _⟩, ⟨qK BK207⟩, ⟨qB HB⟩⟩
     case rest =>
      clear HC20
      try clear c1
      try clear c2
      try clear p2
      try clear q2
      try clear hx2
      try clear c4
      try clear c4b0
      try clear c5
      try clear c5b0
      try clear c6
      try clear c6b0
      try clear p6
      try clear c8
      try clear c9
      try clear c9b0
      try clear c11
      try clear c11b0
      try clear c12
      try clear c12b0
      try clear c13
      try clear c13b0
      try clear c19
      try clear p20
      try clear q20
      try clear hx20
      try clear p21
      try clear q21
      try clear hx21
      try clear c22
      try clear c22b0
      try clear c22b1
      try clear hcz14_0
      try clear hcz14_1
      try clear hcz14_2
      try clear hcz15_0
      try clear hcz15_1
      try clear hcz15_2
      try clear hcz16_0
      try clear hcz16_1
      try clear hcz16_2
      try clear hcz17_0
      try clear hcz17_1
      try clear hcz17_2
      try clear hcz21_0
      try clear hcz21_1
      try clear hcz21_2
      try clear hcz3_0
      try clear hcz3_1
      try clear hcz3_2
      try clear hfz14_0
      try clear hfz14_1
      try clear hfz14_2
      try clear hfz15_0
      try clear hfz15_1
      try clear hfz15_2
      try clear hfz16_0
      try clear hfz16_1
      try clear hfz16_2
      try clear hfz17_0
      try clear hfz17_1
      try clear hfz17_2
      try clear hfz21_0
      try clear hfz21_1
      try clear hfz21_2
      try clear hfz3_0
      try clear hfz3_1
      try clear hfz3_2
      try clear hx208_0
      try clear hx210_0
      try clear hx211_0
      try clear p2
      try clear p208
      try clear p210
      try clear p211
      try clear q208
      try clear q210
      try clear q211
      obtain ⟨kq, x44_19, rfl, HA, HJ19, BK207, HB⟩ := hcut
      cases kq with
      | zero => exact absurd HA.out (by simp [spec_l2Term.j1])
      | succ kj19 =>
       have H := HA.out
       clear HA
       simp only [spec_l2Term.j1] at H
       by_cases c23 : x44_19 = true
       ·subst c23
        have H1 : (some ((l0_2.length : Int) == 1)) = some r := by rw [if_pos rfl] at H; exact H
        clear H
        have H := H1
        clear H1
        obtain rfl := Option.some.inj H
        go_wp2
        repeat (go_quiet (fail); try go_wp2)
        go_ret
        exact ⟨by first | rfl | (simp [errW_none, errW_some] <;> rfl) | (simp [*, errW_none, errW_some] <;> rfl), by repeat (first | (with_reducible first | exact HB.out | apply below_alloc | apply pw_below_drewN | apply below_drew1 | refine below_set ?_ GE207.out) | exact HB.out)⟩
       ·replace c23 := Bool.eq_false_iff.mpr c23
        subst c23
        have H1 : (if a0_0 = 3 then ((spec_l1In.f (l0_2.length : Int) 1 6).bind fun t213 => (some t213)) else (if a0_0 = 4 then (some ((l0_2.length : Int) == 0)) else (if a0_0 = 5 then (some ((l0_2.length : Int) == 0)) else (some false)))) = some r := by rw [if_neg (show ¬ (false = true) by decide)] at H; exact H
        clear H
        have H := H1
        clear H1
        by_cases c24 : a0_0 = 3
        ·rw [if_pos c24] at H
         have c24b0 : (a0_0 == 3) = true := beq_iff_eq.mpr c24
         have c24b1 : (a0_0 != 3) = false := bne_eq_false_iff_eq.mpr c24
         clear c24
         replace H := Option.bind_eq_some_iff.mp H
         obtain ⟨t213, A250, H⟩ := H
         try dsimp only at H
         have A25 := Aside0.mk A250
         clear A250
         obtain rfl := Option.some.inj H
         go_wp2_with (first | (go_at_call 88; (with_reducible refine (spec_l1In.calls (l0_2.length : Int) 1 6 t213 _ A25.out).mono ?_); rintro e w' ⟨rfl, ⟨nd, rfl⟩⟩))
         go_ret
         exact ⟨by first | rfl | (simp [errW_none, errW_some] <;> rfl) | (simp [*, errW_none, errW_some] <;> rfl), by repeat (first | (with_reducible first | exact HB.out | apply below_alloc | apply pw_below_drewN | apply below_drew1 | refine below_set ?_ GE207.out) | exact HB.out)⟩
        ·rw [if_neg c24] at H
         have c24b0 : (a0_0 == 3) = false := beq_eq_false_iff_ne.mpr c24
         have c24b1 : (a0_0 != 3) = true := bne_iff_ne.mpr c24
         by_cases c26 : a0_0 = 4
         ·rw [if_pos c26] at H
          have c26b0 : (a0_0 == 4) = true := beq_iff_eq.mpr c26
          have c26b1 : (a0_0 != 4) = false := bne_eq_false_iff_eq.mpr c26
          clear c26
          obtain rfl := Option.some.inj H
          go_wp2
          repeat (go_quiet (fail); try go_wp2)
          go_ret
          exact ⟨by first | rfl | (simp [errW_none, errW_some] <;> rfl) | (simp [*, errW_none, errW_some] <;> rfl), by repeat (first | (with_reducible first | exact HB.out | apply below_alloc | apply pw_below_drewN | apply below_drew1 | refine below_set ?_ GE207.out) | exact HB.out)⟩
         ·rw [if_neg c26] at H
          have c26b0 : (a0_0 == 4) = false := beq_eq_false_iff_ne.mpr c26
          have c26b1 : (a0_0 != 4) = true := bne_iff_ne.mpr c26
          by_cases c27 : a0_0 = 5
          ·rw [if_pos c27] at H
           have c27b0 : (a0_0 == 5) = true := beq_iff_eq.mpr c27
           have c27b1 : (a0_0 != 5) = false := bne_eq_false_iff_eq.mpr c27
           clear c27
           obtain rfl := Option.some.inj H
           go_wp2
           repeat (go_quiet (fail); try go_wp2)
           go_ret
           exact ⟨by first | rfl | (simp [errW_none, errW_some] <;> rfl) | (simp [*, errW_none, errW_some] <;> rfl), by repeat (first | (with_reducible first | exact HB.out | apply below_alloc | apply pw_below_drewN | apply below_drew1 | refine below_set ?_ GE207.out) | exact HB.out)⟩
          ·rw [if_neg c27] at H
           have c27b0 : (a0_0 == 5) = false := beq_eq_false_iff_ne.mpr c27
           have c27b1 : (a0_0 != 5) = true := bne_iff_ne.mpr c27
           obtain rfl := Option.some.inj H
           go_wp2
           repeat (go_quiet (fail); try go_wp2)
           go_ret
           exact ⟨by first | rfl | (simp [errW_none, errW_some] <;> rfl) | (simp [*, errW_none, errW_some] <;> rfl), by repeat (first | (with_reducible first | exact HB.out | apply below_alloc | apply pw_below_drewN | apply below_drew1 | refine below_set ?_ GE207.out) | exact HB.out)⟩
    ·replace c19 := Bool.eq_false_iff.mpr c19
     subst c19
     have H1 : (some false) = some r := by rw [if_neg (show ¬ (false = true) by decide)] at H; exact H
     clear H
     have H := H1
     clear H1
     obtain rfl := Option.some.inj H
     obtain ⟨hcz28_0, hcz28_1, hcz28_2, hfz28_0, hfz28_1, hfz28_2⟩ := blk3 BK207
     go_wp2_with (first | (go_at_call 55; (with_reducible refine (spec_NameOk.calls k1 a0_1 false _ A18.out).mono ?_); rintro e w' ⟨rfl, ⟨nd, rfl⟩⟩))
     go_ret
     exact ⟨by first | rfl | (simp [errW_none, errW_some] <;> rfl) | (simp [*, errW_none, errW_some] <;> rfl), by repeat (first | (with_reducible first | exact HB.out | apply below_alloc | apply pw_below_drewN | apply below_drew1 | refine below_set ?_ GE207.out) | exact HB.out)⟩

end Go.Proofs.YtpjpnppoejnafaaDoor.G

/- G29 -/
-- Laid by wip/g/gprint.py out of the translation, by the kit's print program. Lean checks it.
namespace Go.Proofs.YtpjpnppoejnafaaDoor.G
open Go.RowKit Go.Proofs.YtpjpnppoejnafaaDoorW.PrintWords Go.Proofs.YtpjpnppoejnafaaDoorW.PrintLast Go.Proofs.YtpjpnppoejnafaaDoorW.PrintMore
attribute [local go_sem] max2_int min2_int max_two min_two max_three min_three max_four min_four   -- for this text's walks alone
set_option linter.unusedVariables false
set_option linter.unusedSimpArgs false

/-! ### spec_SelectorOk: function 29 -/
def spec_SelectorOk.l0 : Nat → List (S59) → Int → Option (Bool)
 | 0, _, _ => none
 | k + 1, x0, x3 => if x3 < (x0.length : Int) then (if 0 ≤ x3 then ((spec_l2Term.f k ((rd_T59 x0 x3).f0) ((rd_T59 x0 x3).f1) ((rd_T59 x0 x3).f2)).bind fun t215 => (if t215 = true then (spec_SelectorOk.l0 k x0 (wrap64 (x3 + 1))) else (some false))) else (none)) else (some (decide ((x0.length : Int) ≤ 8)))
def spec_SelectorOk.f (k : Nat) (l0 : List (S59)) : Option (Bool) := spec_SelectorOk.l0 k l0 0
set_option maxHeartbeats 8000000 in
set_option maxRecDepth 100000 in
theorem spec_SelectorOk.calls (k : Nat) (A0 : Option Addr) (c0 : Nat) (l0 : List (S59)) (r : Bool) (w : World) (hr0 : Kd.C k59 w A0 l0.length l0) (hc0 : l0.length ≤ c0) (h : spec_SelectorOk.f k l0 = some r) :
  Calls Tryd.prog 29 #[.slice A0 l0.length c0] w fun e w' => e = .returned (.bool r) ∧ Below w.heap.size w w' := by
 have hu59 := Tryd.underlying59
 have HR0 := Aside0.mk hr0
 have HC0 := Aside0.mk hc0
 clear hr0 hc0
 have HB := Aside0.mk (Below.refl w.heap.size w)
 unfold spec_SelectorOk.f at h; have H := h
 clear h
 have H' := Aside0.mk H
 clear H
 go_enter Tryd.func29, Tryd.ntmps29
 go_wp2
 go_loopg [3] k (fun kq v3 w' => ∃ (x3_1 : Int), v3 = .int .i64 x3_1 ∧ Aside0 (spec_SelectorOk.l0 kq l0 x3_1 = some r) ∧ Aside0 (kq ≤ k) ∧ Aside0 (Below w.heap.size w w'))
 case atStart => exact ⟨(0), (by first | rfl | (simp; done) | (simp [*]; done)), H', ⟨Nat.le_refl _⟩, ⟨qB HB⟩⟩
 case round =>
  clear H'
  obtain ⟨x3_1, rfl, HA, HK1, HB⟩ := hrel
  cases gk with
  | zero => exact absurd HA.out (by simp [spec_SelectorOk.l0])
  | succ k1 =>
   have H := HA.out
   clear HA
   simp only [spec_SelectorOk.l0] at H
   by_cases c2 : x3_1 < (l0.length : Int)
   ·rw [if_pos c2] at H
    have c2b0 : decide (x3_1 < (l0.length : Int)) = true := decide_eq_true c2
    clear c2
    by_cases c3 : 0 ≤ x3_1
    ·rw [if_pos c3] at H
     have c3b0 : decide (0 ≤ x3_1) = true := decide_eq_true c3
     clear c3
     replace H := Option.bind_eq_some_iff.mp H
     obtain ⟨t215, A40, H⟩ := H
     try dsimp only at H
     have A4 := Aside0.mk A40
     clear A40
     by_cases c5 : t215 = true
     ·subst c5
      have H1 : (spec_SelectorOk.l0 k1 l0 (wrap64 (x3_1 + 1))) = some r := by rw [if_pos rfl] at H; exact H
      clear H
      have H := H1
      clear H1
      have H' := Aside0.mk H
      clear H
      have p214 : 0 ≤ (x3_1 : Int) := of_decide_eq_true (by first | (with_reducible assumption) | assumption)
      have q214 : x3_1 < (l0.length : Int) := of_decide_eq_true (by first | (with_reducible assumption) | assumption)
      obtain ⟨ad214, A214_2, c214_2, e214, hx214_0, hx214_1, hx214_2, hl214_2, hi214_2⟩ := at_T59 HR0.out x3_1 p214 q214
      cases e214
      replace hx214_0 := (HB.out.cell (World.block_lt_of_cell? w _ hx214_0)).trans hx214_0
      replace hx214_1 := (HB.out.cell (World.block_lt_of_cell? w _ hx214_1)).trans hx214_1
      replace hx214_2 := (HB.out.cell (World.block_lt_of_cell? w _ hx214_2)).trans hx214_2
      have HR214_2 := Aside0.mk hi214_2
      have HC214_2 := Aside0.mk hl214_2
      clear hi214_2 hl214_2
      replace p214 := eq_true p214
      replace q214 := eq_true q214
      go_wp2_with (first | ((with_reducible refine gate_callee (f := 67) rfl ?_); refine goesL_ (some 14) rfl rfl Tryd.func67 (by kernel_rfl) rfl #[.agg #[.int .i64 ((rd_T59 l0 x3_1).f0), .string ((rd_T59 l0 x3_1).f1), .slice A214_2 ((rd_T59 l0 x3_1).f2).length c214_2]] rfl (by (try simp only [List.map_toArray, List.map_cons, List.map_nil]); first | done | rfl | (simp only [List.length_drop, List.length_take]; rfl)) ?_; (with_reducible refine (spec_l2Term.calls k1 ((rd_T59 l0 x3_1).f0) ((rd_T59 l0 x3_1).f1) _ _ ((rd_T59 l0 x3_1).f2) true _ (qC HR214_2 HB) HC214_2.out A4.out).mono ?_); rintro e w6 ⟨rfl, hb⟩; refine ⟨_, rfl, ?_⟩; have n0_ := Aside0.mk (below_step (qB HB) hb); clear HB; have HB := n0_; clear n0_; (try clear hb); (try clear hb2); (try clear hk); (try clear hi)))
      go_roundg k1
      case measure => have := HK1.out; omega
      case rel => exact ⟨(wrap64 (x3_1 + 1)), (by first | rfl | (simp; done) | (simp [*]; done)), H', ⟨by have := HK1.out; omega⟩, ⟨qB HB⟩⟩
     ·replace c5 := Bool.eq_false_iff.mpr c5
      subst c5
      have H1 : (some false) = some r := by rw [if_neg (show ¬ (false = true) by decide)] at H; exact H
      clear H
      have H := H1
      clear H1
      obtain rfl := Option.some.inj H
      have p214 : 0 ≤ (x3_1 : Int) := of_decide_eq_true (by first | (with_reducible assumption) | assumption)
      have q214 : x3_1 < (l0.length : Int) := of_decide_eq_true (by first | (with_reducible assumption) | assumption)
      obtain ⟨ad214, A214_2, c214_2, e214, hx214_0, hx214_1, hx214_2, hl214_2, hi214_2⟩ := at_T59 HR0.out x3_1 p214 q214
      cases e214
      replace hx214_0 := (HB.out.cell (World.block_lt_of_cell? w _ hx214_0)).trans hx214_0
      replace hx214_1 := (HB.out.cell (World.block_lt_of_cell? w _ hx214_1)).trans hx214_1
      replace hx214_2 := (HB.out.cell (World.block_lt_of_cell? w _ hx214_2)).trans hx214_2
      have HR214_2 := Aside0.mk hi214_2
      have HC214_2 := Aside0.mk hl214_2
      clear hi214_2 hl214_2
      replace p214 := eq_true p214
      replace q214 := eq_true q214
      go_wp2_with (first | ((with_reducible refine gate_callee (f := 67) rfl ?_); refine goesL_ (some 14) rfl rfl Tryd.func67 (by kernel_rfl) rfl #[.agg #[.int .i64 ((rd_T59 l0 x3_1).f0), .string ((rd_T59 l0 x3_1).f1), .slice A214_2 ((rd_T59 l0 x3_1).f2).length c214_2]] rfl (by (try simp only [List.map_toArray, List.map_cons, List.map_nil]); first | done | rfl | (simp only [List.length_drop, List.length_take]; rfl)) ?_; (with_reducible refine (spec_l2Term.calls k1 ((rd_T59 l0 x3_1).f0) ((rd_T59 l0 x3_1).f1) _ _ ((rd_T59 l0 x3_1).f2) false _ (qC HR214_2 HB) HC214_2.out A4.out).mono ?_); rintro e w7 ⟨rfl, hb⟩; refine ⟨_, rfl, ?_⟩; have n0_ := Aside0.mk (below_step (qB HB) hb); clear HB; have HB := n0_; clear n0_; (try clear hb); (try clear hb2); (try clear hk); (try clear hi)))
      go_ret
      exact ⟨by first | rfl | (simp [errW_none, errW_some] <;> rfl) | (simp [*, errW_none, errW_some] <;> rfl), by repeat (first | (with_reducible first | exact HB.out | apply below_alloc | apply pw_below_drewN | apply below_drew1) | exact HB.out)⟩
    ·rw [if_neg c3] at H
     exact absurd H (by simp)
   ·rw [if_neg c2] at H
    have c2b0 : decide (x3_1 < (l0.length : Int)) = false := decide_eq_false c2
    clear c2
    obtain rfl := Option.some.inj H
    go_wp2
    go_ret
    exact ⟨by first | rfl | (simp [errW_none, errW_some] <;> rfl) | (simp [*, errW_none, errW_some] <;> rfl), by repeat (first | (with_reducible first | exact HB.out | apply below_alloc | apply pw_below_drewN | apply below_drew1) | exact HB.out)⟩

end Go.Proofs.YtpjpnppoejnafaaDoor.G

/- PTermB -/
/-
  Terms and selectors that are right.
-/
namespace Go.Proofs.YtpjpnppoejnafaaDoor.G
open Go.RowKit Go.Proofs.YtpjpnppoejnafaaDoorW.PrintWords Go.Proofs.YtpjpnppoejnafaaDoorW.PrintLast Go.Proofs.YtpjpnppoejnafaaDoorW.PrintMore
set_option linter.unusedVariables false
set_option linter.unusedSimpArgs false
abbrev ITerm := S59
theorem rdIT {xs : List ITerm} {i : Nat} (h : i < xs.length) : rd_T59 xs (i : Int) = xs[i] := by unfold rd_T59; rw [Int.toNat_natCast]; exact getD_at h _
/-! ### terms and selectors that are right -/
def kindB (kind : Int) (n : Int) : Bool := if kind = 1 ∨ kind = 2 then n == 1 else if kind = 3 then inB n 1 6 else if kind = 4 ∨ kind = 5 then n == 0 else false
def wfITerm (x : ITerm) : Prop := x.f1.size ≤ 9223372036854775807 ∧ wfStrs x.f2
def termB (x : ITerm) : Bool := namsB x.f2 && (nameB x.f1 && kindB x.f0 x.f2.length)
theorem kindB_le {kind n : Int} (h : kindB kind n = true) : n ≤ 6 := by
  unfold kindB at h
  split at h
  · simp at h; omega
  · split at h
    · have := inB_true h; omega
    · split at h
      · simp at h; omega
      · cases h
theorem kindB_12 {k n : Int} (h : k = 1 ∨ k = 2) : kindB k n = (n == 1) := by unfold kindB; rw [if_pos h]
theorem kindB_3 {k n : Int} (h : k = 3) : kindB k n = inB n 1 6 := by unfold kindB; rw [if_neg (by omega), if_pos h]
theorem kindB_45 {k n : Int} (h : k = 4 ∨ k = 5) : kindB k n = (n == 0) := by unfold kindB; rw [if_neg (by omega), if_neg (by omega), if_pos h]
theorem kindB_no {k n : Int} (h : ¬ (k = 1 ∨ k = 2)) (h' : k ≠ 3) (h'' : ¬ (k = 4 ∨ k = 5)) : kindB k n = false := by unfold kindB; rw [if_neg h, if_neg h', if_neg h'']
theorem l2Term_ev (x : ITerm) (h : wfITerm x) : Ev (fun k => spec_l2Term.f k x.f0 x.f1 x.f2) (termB x) := by
  obtain ⟨hk, hv⟩ := h
  unfold spec_l2Term.f termB namsB
  refine loop_all (g := fun k i => spec_l2Term.l0 k x.f2.length i x.f0 x.f1 x.f2) x.f2.length _ _ ?_ ?_ ?_
  · intro i hi hok r hr
    refine Ev.step (fun k => by rw [spec_l2Term.l0]) ?_
    simp only [wsucc hi hv.1]
    refine ev_if_pos (by omega) (ev_if_pos (by omega) (ev_if_pos (by omega) (Ev.bind (specNameOk_ev _ (wfStrs_at hv hi)) (ev_if_pos (namOk_name hok) (ev_if (fun c => ?_) (fun c => hr))))))
    simp only [wpred (by omega : 0 < i) hi hv.1]
    exact ev_if_pos (by omega) (ev_if_pos (by omega) (ev_if_pos (namOk_less hok (by omega)) hr))
  · intro i hi hok
    refine Ev.step (fun k => by rw [spec_l2Term.l0]) ?_
    refine ev_if_pos (by omega) (ev_if_pos (by omega) (ev_if_pos (by omega) (Ev.bind (specNameOk_ev _ (wfStrs_at hv hi)) (ev_if (fun c0 => ?_) (fun _ => Ev.now _)))))
    obtain ⟨h0, hl⟩ := namOk_false hok c0
    simp only [wpred h0 hi hv.1]
    exact ev_if_pos (by omega) (ev_if_pos (by omega) (ev_if_pos (by omega) (ev_if_neg (by rw [hl]; simp) (Ev.now _))))
  · refine Ev.step (fun k => by rw [spec_l2Term.l0]) (ev_if_neg (by omega) (Ev.bind (specNameOk_ev _ hk) ?_))
    cases hn : nameB x.f1 with
    | false => exact ev_if_neg (by simp) (Ev.now _)
    | true =>
      rw [Bool.true_and]
      refine ev_if_pos rfl ?_
      have key : ∀ b : Bool, b = (x.f0 == 1 || x.f0 == 2) → Ev (fun k => spec_l2Term.j1 k x.f2.length x.f0 b) (kindB x.f0 x.f2.length) := by
        intro b hb
        refine Ev.step (fun k => by rw [spec_l2Term.j1]) ?_
        by_cases c : x.f0 = 1 ∨ x.f0 = 2
        · rw [kindB_12 c]; exact ev_if_pos (by rw [hb]; simpa using c) (ev_some (by first | rfl | (rw [Bool.eq_iff_iff]; simp; done) | (rw [Bool.eq_iff_iff]; simp)))
        · refine ev_if_neg (by rw [hb]; simpa using c) ?_
          by_cases c3 : x.f0 = 3
          · rw [kindB_3 c3]; refine ev_if_pos c3 ?_; simp only [l1In_f, Option.bind_some]; exact Ev.now _
          · refine ev_if_neg c3 ?_
            by_cases c4 : x.f0 = 4
            · rw [kindB_45 (.inl c4)]; exact ev_if_pos c4 (ev_some (by first | rfl | (rw [Bool.eq_iff_iff]; simp; done) | (rw [Bool.eq_iff_iff]; simp)))
            · refine ev_if_neg c4 ?_
              by_cases c5 : x.f0 = 5
              · rw [kindB_45 (.inr c5)]; exact ev_if_pos c5 (ev_some (by first | rfl | (rw [Bool.eq_iff_iff]; simp; done) | (rw [Bool.eq_iff_iff]; simp)))
              · rw [kindB_no c c3 (by omega)]; exact ev_if_neg c5 (Ev.now _)
      exact ev_if (fun c => key _ (by simp [c])) (fun c => key _ (by simp [c]))
theorem names6 (x : ITerm) (hv : wfStrs x.f2) (hk : x.f1.size ≤ 9223372036854775807) (c : Bool) (hc : c = true → x.f2.length ≤ 6) (he : c = kindB x.f0 x.f2.length) :
    Ev (fun k => if c = true then (impl_NameOk.f k x.f1).bind fun t => (if t = true then ((impl_namesOk.f k x.f2 6).bind fun u => (some u)) else (some false)) else some false) (termB x) := by
  unfold termB
  rw [← he]
  cases c with
  | false => refine ev_if_neg (by simp) (ev_some (by simp))
  | true =>
    refine ev_if_pos rfl (Ev.bind (implNameOk_ev _ hk) ?_)
    cases nameB x.f1 with
    | false => exact ev_if_neg (by simp) (ev_some (by simp))
    | true => exact ev_if_pos rfl (Ev.bind (namesOk_ev _ 6 hv) (ev_some (by rw [decide_eq_true (by have := hc rfl; omega)]; simp)))
theorem termOk_ev (x : ITerm) (h : wfITerm x) : Ev (fun k => impl_termOk.f k x.f0 x.f1 x.f2) (termB x) := by
  obtain ⟨hk, hv⟩ := h
  have fin : ∀ (p : Prop) [Decidable p], (p ↔ kindB x.f0 x.f2.length = true) → Ev (fun k => if p then (impl_NameOk.f k x.f1).bind fun t => (if t = true then ((impl_namesOk.f k x.f2 6).bind fun u => (some u)) else (some false)) else some false) (termB x) := by
    intro p _ hp
    have := names6 x hv hk (decide p) (fun hc => by have := kindB_le (hp.1 (of_decide_eq_true hc)); omega) (by rw [Bool.eq_iff_iff, decide_eq_true_iff]; exact hp)
    simpa only [decide_eq_true_eq] using this
  have no : kindB x.f0 x.f2.length = false → termB x = false := by intro h; unfold termB; rw [h]; simp
  have j1 : ∀ b : Bool, b = (x.f0 == 4 || x.f0 == 5) → ¬ (x.f0 = 1 ∨ x.f0 = 2) → x.f0 ≠ 3 → Ev (fun k => impl_termOk.j1 k x.f2.length false b x.f0 x.f1 x.f2) (termB x) := by
    intro b hb c1 c3
    refine Ev.step (fun k => by rw [impl_termOk.j1]) ?_
    cases b with
    | true =>
      refine ev_if_pos rfl (fin _ ?_)
      rw [kindB_45 (by simpa using hb.symm)]; simp
    | false =>
      refine ev_if_neg (by simp) (ev_if_neg (by simp) (ev_some (no ?_).symm))
      exact kindB_no c1 c3 (by simpa using hb.symm)
  have j0 : ∀ b : Bool, b = (x.f0 == 1 || x.f0 == 2) → Ev (fun k => impl_termOk.j0 k x.f2.length false x.f0 b x.f0 x.f1 x.f2) (termB x) := by
    intro b hb
    refine Ev.step (fun k => by rw [impl_termOk.j0]) ?_
    cases b with
    | true =>
      refine ev_if_pos rfl (fin _ ?_)
      rw [kindB_12 (by simpa using hb.symm)]; simp
    | false =>
      have c1 : ¬ (x.f0 = 1 ∨ x.f0 = 2) := by simpa using hb.symm
      refine ev_if_neg (by simp) ?_
      by_cases c3 : x.f0 = 3
      · refine ev_if_pos c3 ?_
        by_cases c6 : x.f2.length ≤ 6
        · refine fin _ ?_
          rw [kindB_3 c3]; unfold inB; rw [decide_eq_true_iff]; omega
        · have hno : termB x = false := no (by rw [kindB_3 c3]; unfold inB; rw [decide_eq_false_iff_not]; omega)
          rw [hno]
          refine ev_if_pos (by omega) (Ev.bind (implNameOk_ev _ hk) (ev_if (fun _ => Ev.bind (namesOk_ev _ 6 hv) (ev_some ?_)) (fun _ => Ev.now _)))
          rw [decide_eq_false (by omega : ¬ ((x.f2.length : Int) ≤ 6)), Bool.and_false]
      · refine ev_if_neg c3 ?_
        exact ev_if (fun c => j1 _ (by simp [c]) c1 c3) (fun c => j1 _ (by simp [c]) c1 c3)
  unfold impl_termOk.f
  exact ev_if (fun c => j0 _ (by simp [c])) (fun c => j0 _ (by simp [c]))
def wfITerms (xs : List ITerm) : Prop := xs.length ≤ 9223372036854775807 ∧ ∀ x ∈ xs, wfITerm x
def selB (xs : List ITerm) : Bool := allN xs.length (fun i => termB (rd_T59 xs i)) && decide ((xs.length : Int) ≤ 8)
theorem specSelectorOk_ev (xs : List ITerm) (h : wfITerms xs) : Ev (fun k => spec_SelectorOk.f k xs) (selB xs) := by
  unfold spec_SelectorOk.f selB
  refine loop_all (g := fun k i => spec_SelectorOk.l0 k xs i) xs.length _ _ ?_ ?_ ?_
  · intro i hi hok r hr
    refine Ev.step (fun k => by rw [spec_SelectorOk.l0]) ?_
    simp only [wsucc hi h.1]
    exact ev_if_pos (by omega) (ev_if_pos (by omega) (Ev.bind (l2Term_ev _ (by rw [rdIT hi]; exact h.2 _ (List.getElem_mem hi))) (ev_if_pos hok hr)))
  · intro i hi hok
    refine Ev.step (fun k => by rw [spec_SelectorOk.l0]) ?_
    exact ev_if_pos (by omega) (ev_if_pos (by omega) (Ev.bind (l2Term_ev _ (by rw [rdIT hi]; exact h.2 _ (List.getElem_mem hi))) (ev_if_neg (by rw [hok]; simp) (Ev.now _))))
  · exact Ev.step (fun k => by rw [spec_SelectorOk.l0]) (ev_if_neg (by omega) (Ev.now _))
/-- A search by a test that is answered: from some number of rounds on. -/
theorem idxO_ev {α : Type} {p : Nat → α → Option Bool} {q : α → Bool} : ∀ (l : List α) (i : Nat), (∀ x ∈ l, Ev (fun k => p k x) (q x)) → ∃ r, Ev (fun k => idxO (p k) l i) r ∧ (decide (0 ≤ r) = l.any q)
  | [], i, _ => ⟨-1, Ev.now _, by simp⟩
  | x :: xs, i, h => by
    have hx := h x (by simp)
    cases hq : q x with
    | true =>
      rw [hq] at hx
      exact ⟨i, Ev.congr (fun k => by rw [idxO]) (Ev.bind (f := fun k t => if t = true then some (i : Int) else idxO (p k) xs (i + 1)) hx (ev_if_pos rfl (Ev.now _))), by rw [List.any_cons, hq, Bool.true_or]; exact decide_eq_true (by omega)⟩
    | false =>
      rw [hq] at hx
      obtain ⟨r, hr, he⟩ := idxO_ev xs (i + 1) (fun y hy => h y (by simp [hy]))
      exact ⟨r, Ev.congr (fun k => by rw [idxO]) (Ev.bind (f := fun k t => if t = true then some (i : Int) else idxO (p k) xs (i + 1)) hx (ev_if_neg Bool.false_ne_true hr)), by rw [List.any_cons, hq, Bool.false_or, he]⟩
theorem any_allN {α : Type} (xs : List α) (q : α → Bool) (rd : Nat → α) (hrd : ∀ i (h : i < xs.length), rd i = xs[i]) : (!xs.any (fun x => !q x)) = allN xs.length (fun i => q (rd i)) := by
  rw [Bool.eq_iff_iff, allN_true]
  simp only [Bool.not_eq_true', List.any_eq_false]
  constructor
  · intro h i hi
    rw [hrd i hi]
    simpa using h _ (List.getElem_mem hi)
  · intro h x hx
    obtain ⟨i, hi, rfl⟩ := List.getElem_of_mem hx
    have := h i hi
    rw [hrd i hi] at this
    simp [this]
theorem implSelectorOk_ev (xs : List ITerm) (h : wfITerms xs) : Ev (fun k => impl_SelectorOk.f k xs) (selB xs) := by
  unfold impl_SelectorOk.f selB
  by_cases hl : xs.length ≤ 8
  · rw [decide_eq_true (by omega), Bool.and_true]
    refine ev_if_pos hl ?_
    obtain ⟨r, hr, he⟩ := idxO_ev (p := fun k (x : ITerm) => impl_SelectorOk_1.f k x.f0 x.f1 x.f2) (q := fun x => !termB x) xs 0 (fun x hx => by
      unfold impl_SelectorOk_1.f
      exact Ev.bind (termOk_ev x (h.2 x hx)) (Ev.now _))
    refine Ev.bind hr (ev_some ?_)
    rw [he, any_allN xs termB (fun i => rd_T59 xs i) (fun i hi => rdIT hi)]
  · rw [decide_eq_false (by omega), Bool.and_false]
    exact ev_if_neg hl (Ev.now _)
end Go.Proofs.YtpjpnppoejnafaaDoor.G
