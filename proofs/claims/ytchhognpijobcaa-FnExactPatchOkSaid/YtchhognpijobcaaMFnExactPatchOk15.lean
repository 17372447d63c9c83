import Derived.Test.YtchhognpijobcaaMFnExactPatchOk1
import Derived.Test.YtchhognpijobcaaMFnExactPatchOk11
import Derived.Test.YtchhognpijobcaaMFnExactPatchOk7
import Derived.Test.YtchhognpijobcaaMFnExactPatchOk12
import Derived.Test.YtchhognpijobcaaMFnExactPatchOk14
/- G17 -/
-- Laid by wip/g/gprint.py out of the translation, by the kit's print program. Lean checks it.
namespace Go.Proofs.Ytchhognpijobcaa.G
open Go.RowKit Go.Proofs.YtchhognpijobcaaW.PrintWords Go.Proofs.YtchhognpijobcaaW.PrintLast Go.Proofs.YtchhognpijobcaaW.PrintMore
attribute [local go_sem] max2_int min2_int max_two min_two max_three min_three max_four min_four   -- for this text's walks alone
set_option linter.unusedVariables false
set_option linter.unusedSimpArgs false

/-! ### spec_ValueOk: function 17 -/
def spec_ValueOk.f (k : Nat) (a0_0 : Int) (a0_1 : ByteArray) (a0_2 : Int) (l0_3 : List ByteArray) (l0_4 : List (S30)) : Option (Bool) := (spec_l4Look.f k a0_0 a0_1 a0_2 l0_3 l0_4 6).bind fun t233 => (some (decide (t233 > 0)))
theorem spec_ValueOk.mono : ∀ a0 a1 a2 a3 a4 k, LeO (spec_ValueOk.f k a0 a1 a2 a3 a4) (spec_ValueOk.f (k + 1) a0 a1 a2 a3 a4) := by
  intro a0 a1 a2 a3 a4 k
  unfold spec_ValueOk.f
  repeat' first
      | (with_reducible exact spec_l4Look.mono _ _ _ _ _ _ _)
      | (with_reducible exact LeO.refl _)
      | (with_reducible exact LeO.none _)
      | (with_reducible refine LeO.ite ?_ ?_)
      | (with_reducible refine LeO.bind ?_ (fun _ => ?_))
      | exact spec_l4Look.mono _ _ _ _ _ _ _
      | exact LeO.none _
      | refine LeO.ite ?_ ?_
      | refine LeO.bind ?_ (fun _ => ?_)
set_option maxHeartbeats 8000000 in
set_option maxRecDepth 100000 in
theorem spec_ValueOk.calls (k : Nat) (a0_0 : Int) (a0_1 : ByteArray) (a0_2 : Int) (A0_3 : Option Addr) (c0_3 : Nat) (l0_3 : List ByteArray) (A0_4 : Option Addr) (c0_4 : Nat) (l0_4 : List (S30)) (r : Bool) (w : World) (hr0_3 : Kd.C Kd.string w A0_3 l0_3.length l0_3) (hc0_3 : l0_3.length ≤ c0_3) (hr0_4 : Kd.C k30 w A0_4 l0_4.length l0_4) (hc0_4 : l0_4.length ≤ c0_4) (h : spec_ValueOk.f k a0_0 a0_1 a0_2 l0_3 l0_4 = some r) :
    Calls Try.prog 17 #[.agg #[.int .i64 a0_0, .string a0_1, .int .i64 a0_2, .slice A0_3 l0_3.length c0_3, .slice A0_4 l0_4.length c0_4]] w fun e w' => e = .returned (.bool r) ∧ Below w.heap.size w w' := by
  have hu30 := Try.underlying30
  have HR0_3 := Aside0.mk hr0_3
  have HC0_3 := Aside0.mk hc0_3
  clear hr0_3 hc0_3
  have HR0_4 := Aside0.mk hr0_4
  have HC0_4 := Aside0.mk hc0_4
  clear hr0_4 hc0_4
  have HB := Aside0.mk (Below.refl w.heap.size w)
  have H : ((spec_l4Look.f k a0_0 a0_1 a0_2 l0_3 l0_4 6).bind fun t233 => (some (decide (t233 > 0)))) = some r := h
  clear h
  replace H := Option.bind_eq_some_iff.mp H
  obtain ⟨t233, A20, H⟩ := H
  replace H : (some (decide (t233 > 0))) = some r := H
  have A2 := Aside0.mk A20
  clear A20
  obtain rfl := Option.some.inj H
  go_enter Try.func17, Try.ntmps17
  go_wp2_with (first | ((with_reducible refine gate_dst (N := 1) rfl ?_); refine box_event ?hg (N := 1) ?hd (cs := #[.int .i64 a0_0, .string a0_1, .int .i64 a0_2, .slice A0_3 l0_3.length c0_3, .slice A0_4 l0_4.length c0_4]) (t := 30) ?hr ?_; (case hd => rfl); (case hg => rfl); (case hr => first | (go_simp; done) | (go_simp; rfl)); intro gb232 hg w3 hbox hb; have n0_ := Aside0.mk (below_step (by repeat (first | (with_reducible first | exact HB.out | apply below_alloc | apply pw_below_drewN | apply below_drew1) | exact HB.out)) hb); have n1_ := Aside0.mk (hbox); have n2_ := Aside0.mk ((by rw [hg]; exact (below_size (by repeat (first | (with_reducible first | exact HB.out | apply below_alloc | apply pw_below_drewN | apply below_drew1) | exact HB.out))) : w.heap.size ≤ gb232)); have n3_ := Aside0.mk ((by rw [hg]; exact (below_size (by repeat (first | (with_reducible first | exact HB.out | apply below_alloc | apply pw_below_drewN | apply below_drew1) | exact HB.out))) : w.heap.size ≤ gb232)); clear HB; have HB := n0_; have BK232 := n1_; have GW232 := n2_; have GE232 := n3_; clear n0_ n1_ n2_ n3_; clear hb hbox hg; have hcz4_0 : w3.cell? ⟨gb232, 0, none⟩ = some (.int .i64 a0_0) := (blk_cell BK232.out 0).trans rfl; have hcz4_1 : w3.cell? ⟨gb232, 1, none⟩ = some (.string a0_1) := (blk_cell BK232.out 1).trans rfl; have hcz4_2 : w3.cell? ⟨gb232, 2, none⟩ = some (.int .i64 a0_2) := (blk_cell BK232.out 2).trans rfl; have hcz4_3 : w3.cell? ⟨gb232, 3, none⟩ = some (.slice A0_3 l0_3.length c0_3) := (blk_cell BK232.out 3).trans rfl; have hcz4_4 : w3.cell? ⟨gb232, 4, none⟩ = some (.slice A0_4 l0_4.length c0_4) := (blk_cell BK232.out 4).trans rfl; have hfz4_0 := blk_frozen BK232.out 0; have hfz4_1 := blk_frozen BK232.out 1; have hfz4_2 := blk_frozen BK232.out 2; have hfz4_3 := blk_frozen BK232.out 3; have hfz4_4 := blk_frozen BK232.out 4) | ((with_reducible refine gate_callee (f := 54) rfl ?_); refine goesL_ (some 4) rfl rfl Try.func54 (by kernel_rfl) rfl #[.agg #[.int .i64 a0_0, .string a0_1, .int .i64 a0_2, .slice A0_3 l0_3.length c0_3, .slice A0_4 l0_4.length c0_4], .int .i64 6] rfl (by (try simp only [List.map_toArray, List.map_cons, List.map_nil]); first | done | rfl | (simp only [List.length_drop, List.length_take]; rfl)) ?_; (with_reducible refine (spec_l4Look.calls k a0_0 a0_1 a0_2 _ _ l0_3 _ _ l0_4 6 t233 _ ?side1 ?side2 ?side3 ?side4 A2.out).mono ?_); (case side1 => repeat (first | exact (Kd.C_below HR0_3.out HB.out) | (with_reducible refine Kd.C_alloc ?_ _) | (with_reducible refine Kd.C_drewN ?_ _) | (with_reducible refine Kd.C_drew ?_))); (case side2 => exact HC0_3.out); (case side3 => repeat (first | exact (Kd.C_below HR0_4.out HB.out) | (with_reducible refine Kd.C_alloc ?_ _) | (with_reducible refine Kd.C_drewN ?_ _) | (with_reducible refine Kd.C_drew ?_))); (case side4 => exact HC0_4.out); rintro e w5 ⟨rfl, hb⟩; refine ⟨_, rfl, ?_⟩; have n0_ := Aside0.mk (blk_below (g := gb232) (o := .cells #[.int .i64 a0_0, .string a0_1, .int .i64 a0_2, .slice A0_3 l0_3.length c0_3, .slice A0_4 l0_4.length c0_4] 30 (0, 0)) (by (with_reducible repeat (first | refine blk_drewN ?_ _ | refine blk_drew ?_ | refine blk_alloc ?_ _)); exact BK232.out) hb); have n1_ := Aside0.mk (below_step (by repeat (first | (with_reducible first | exact HB.out | apply below_alloc | apply pw_below_drewN | apply below_drew1 | refine below_set ?_ GE232.out) | exact HB.out)) hb); clear BK232; clear HB; have BK232 := n0_; have HB := n1_; clear n0_ n1_; (try clear hb); (try clear hb2); (try clear hk); (try clear hi)))
  go_ret
  exact ⟨by first | rfl | (simp [errW_none, errW_some] <;> rfl) | (simp [*, errW_none, errW_some] <;> rfl), by repeat (first | (with_reducible first | exact HB.out | apply below_alloc | apply pw_below_drewN | apply below_drew1 | refine below_set ?_ GE232.out) | exact HB.out)⟩

end Go.Proofs.Ytchhognpijobcaa.G

/- G62 -/
-- Laid by wip/g/gprint.py out of the translation, by the kit's print program. Lean checks it.
namespace Go.Proofs.Ytchhognpijobcaa.G
open Go.RowKit Go.Proofs.YtchhognpijobcaaW.PrintWords Go.Proofs.YtchhognpijobcaaW.PrintLast Go.Proofs.YtchhognpijobcaaW.PrintMore
attribute [local go_sem] max2_int min2_int max_two min_two max_three min_three max_four min_four   -- for this text's walks alone
set_option linter.unusedVariables false
set_option linter.unusedSimpArgs false

/-! ### spec_l5Path: function 62 -/
def spec_l5Path.l0 : Nat → List ByteArray → Int → Option (Bool)
  | 0, _, _ => none
  | k + 1, x0, x3 => if x3 < (x0.length : Int) then (if 0 ≤ x3 then ((spec_NameOk.f k (rdOf ByteArray.empty x0 x3)).bind fun t421 => (if t421 = true then (spec_l5Path.l0 k x0 (wrap64 (x3 + 1))) else ((spec_l4Number.f k (rdOf ByteArray.empty x0 x3)).bind fun t423 => (if t423 < 0 then (some false) else (spec_l5Path.l0 k x0 (wrap64 (x3 + 1))))))) else (none)) else ((spec_l1In.f (x0.length : Int) 1 5).bind fun t419 => (some t419))
def spec_l5Path.f (k : Nat) (l0 : List ByteArray) : Option (Bool) := spec_l5Path.l0 k l0 0
theorem spec_l5Path.mono_l : ∀ k, (∀ y0 y1, LeO (spec_l5Path.l0 k y0 y1) (spec_l5Path.l0 (k + 1) y0 y1))
  | 0 => fun _ _ r h => by simp [spec_l5Path.l0] at h
  | k + 1 => by
    have ih0 := spec_l5Path.mono_l k
    · intro y0 y1
      unfold spec_l5Path.l0
      repeat' first
      | (with_reducible exact ih0 _ _)
      | (with_reducible exact spec_NameOk.mono _ _)
      | (with_reducible exact spec_l4Number.mono _ _)
      | (with_reducible exact LeO.refl _)
      | (with_reducible exact LeO.none _)
      | (with_reducible refine LeO.ite ?_ ?_)
      | (with_reducible refine LeO.bind ?_ (fun _ => ?_))
      | exact ih0 _ _
      | exact spec_NameOk.mono _ _
      | exact spec_l4Number.mono _ _
      | exact LeO.none _
      | refine LeO.ite ?_ ?_
      | refine LeO.bind ?_ (fun _ => ?_)
theorem spec_l5Path.mono : ∀ a0 k, LeO (spec_l5Path.f k a0) (spec_l5Path.f (k + 1) a0) := by
  intro a0 k
  have ih0 := spec_l5Path.mono_l k
  unfold spec_l5Path.f
  repeat' first
      | (with_reducible exact ih0 _ _)
      | (with_reducible exact spec_NameOk.mono _ _)
      | (with_reducible exact spec_l4Number.mono _ _)
      | (with_reducible exact LeO.refl _)
      | (with_reducible exact LeO.none _)
      | (with_reducible refine LeO.ite ?_ ?_)
      | (with_reducible refine LeO.bind ?_ (fun _ => ?_))
      | exact ih0 _ _
      | exact spec_NameOk.mono _ _
      | exact spec_l4Number.mono _ _
      | exact LeO.none _
      | refine LeO.ite ?_ ?_
      | refine LeO.bind ?_ (fun _ => ?_)
set_option maxHeartbeats 8000000 in
set_option maxRecDepth 100000 in
theorem spec_l5Path.calls (k : Nat) (A0 : Option Addr) (c0 : Nat) (l0 : List ByteArray) (r : Bool) (w : World) (hr0 : Kd.C Kd.string w A0 l0.length l0) (hc0 : l0.length ≤ c0) (h : spec_l5Path.f k l0 = some r) :
    Calls Try.prog 62 #[.slice A0 l0.length c0] w fun e w' => e = .returned (.bool r) ∧ Drawn0 w w' := by
  have HR0 := Aside0.mk hr0
  have HC0 := Aside0.mk hc0
  clear hr0 hc0
  have H : (spec_l5Path.l0 k l0 0) = some r := h
  clear h
  have H' := Aside0.mk H
  clear H
  go_enter Try.func62, Try.ntmps62
  go_wp2
  go_loopg [3] k (fun kq v3 w' => ∃ (x3_1 : Int), v3 = .int .i64 x3_1 ∧ Aside0 (spec_l5Path.l0 kq l0 x3_1 = some r) ∧ Aside0 (kq ≤ k) ∧ Drawn0 w w')
  case atStart => exact ⟨(0), (by first | rfl | (simp; done) | (simp [*]; done)), H', ⟨Nat.le_refl _⟩, by repeat (first | exact Drawn0.refl _ | apply Drawn0.step)⟩
  case round =>
    clear H'
    obtain ⟨x3_1, rfl, HA, HK1, ⟨m1, rfl⟩⟩ := hrel
    cases gk with
    | zero => exact absurd HA.out (by simp [spec_l5Path.l0])
    | succ k1 =>
      have H := HA.out
      clear HA
      simp only [spec_l5Path.l0] at H
      by_cases c2 : x3_1 < (l0.length : Int)
      · rw [if_pos c2] at H
        have c2b0 : decide (x3_1 < (l0.length : Int)) = true := decide_eq_true c2
        clear c2
        by_cases c3 : 0 ≤ x3_1
        · rw [if_pos c3] at H
          have c3b0 : decide (0 ≤ x3_1) = true := decide_eq_true c3
          clear c3
          replace H := Option.bind_eq_some_iff.mp H
          obtain ⟨t421, A40, H⟩ := H
          replace H : (if t421 = true then (spec_l5Path.l0 k1 l0 (wrap64 (x3_1 + 1))) else ((spec_l4Number.f k1 (rdOf ByteArray.empty l0 x3_1)).bind fun t423 => (if t423 < 0 then (some false) else (spec_l5Path.l0 k1 l0 (wrap64 (x3_1 + 1)))))) = some r := H
          have A4 := Aside0.mk A40
          clear A40
          by_cases c5 : t421 = true
          · subst c5
            have H1 : (spec_l5Path.l0 k1 l0 (wrap64 (x3_1 + 1))) = some r := by rw [if_pos rfl] at H; exact H
            clear H
            have H := H1
            clear H1
            have H' := Aside0.mk H
            clear H
            have p420 : 0 ≤ (x3_1 : Int) := of_decide_eq_true (by first | (with_reducible assumption) | assumption)
            have q420 : x3_1 < (l0.length : Int) := of_decide_eq_true (by first | (with_reducible assumption) | assumption)
            obtain ⟨ad420, e420, hx420_0⟩ := Kd.at_string HR0.out x3_1 p420 q420
            cases e420
            replace p420 := eq_true p420
            replace q420 := eq_true q420
            go_wp2_with (first | ((with_reducible refine gate_callee (f := 94) rfl ?_); refine goesL_ (some 14) rfl rfl Try.func94 (by kernel_rfl) rfl #[.string (rdOf ByteArray.empty l0 x3_1)] rfl (by (try simp only [List.map_toArray, List.map_cons, List.map_nil]); first | done | rfl | (simp only [List.length_drop, List.length_take]; rfl)) ?_; (with_reducible refine (spec_NameOk.calls k1 (rdOf ByteArray.empty l0 x3_1) true _ A4.out).mono ?_); rintro e w' ⟨rfl, ⟨nd, rfl⟩⟩; refine ⟨_, rfl, ?_⟩))
            go_roundg k1
            case measure => have := HK1.out; omega
            case rel => exact ⟨(wrap64 (x3_1 + 1)), (by first | rfl | (simp; done) | (simp [*]; done)), H', ⟨by have := HK1.out; omega⟩, by repeat (first | exact Drawn0.refl _ | apply Drawn0.step)⟩
          · replace c5 := Bool.eq_false_iff.mpr c5
            subst c5
            have H1 : ((spec_l4Number.f k1 (rdOf ByteArray.empty l0 x3_1)).bind fun t423 => (if t423 < 0 then (some false) else (spec_l5Path.l0 k1 l0 (wrap64 (x3_1 + 1))))) = some r := by rw [if_neg (show ¬ (false = true) by decide)] at H; exact H
            clear H
            have H := H1
            clear H1
            replace H := Option.bind_eq_some_iff.mp H
            obtain ⟨t423, A60, H⟩ := H
            replace H : (if t423 < 0 then (some false) else (spec_l5Path.l0 k1 l0 (wrap64 (x3_1 + 1)))) = some r := H
            have A6 := Aside0.mk A60
            clear A60
            by_cases c7 : t423 < 0
            · rw [if_pos c7] at H
              have c7b0 : decide (t423 < 0) = true := decide_eq_true c7
              clear c7
              obtain rfl := Option.some.inj H
              have p420 : 0 ≤ (x3_1 : Int) := of_decide_eq_true (by first | (with_reducible assumption) | assumption)
              have q420 : x3_1 < (l0.length : Int) := of_decide_eq_true (by first | (with_reducible assumption) | assumption)
              obtain ⟨ad420, e420, hx420_0⟩ := Kd.at_string HR0.out x3_1 p420 q420
              cases e420
              replace p420 := eq_true p420
              replace q420 := eq_true q420
              go_wp2_with (first | ((with_reducible refine gate_callee (f := 94) rfl ?_); refine goesL_ (some 14) rfl rfl Try.func94 (by kernel_rfl) rfl #[.string (rdOf ByteArray.empty l0 x3_1)] rfl (by (try simp only [List.map_toArray, List.map_cons, List.map_nil]); first | done | rfl | (simp only [List.length_drop, List.length_take]; rfl)) ?_; (with_reducible refine (spec_NameOk.calls k1 (rdOf ByteArray.empty l0 x3_1) false _ A4.out).mono ?_); rintro e w' ⟨rfl, ⟨nd, rfl⟩⟩; refine ⟨_, rfl, ?_⟩; have p422 : 0 ≤ (x3_1 : Int) := of_decide_eq_true (by first | (with_reducible assumption) | assumption); have q422 : x3_1 < (l0.length : Int) := of_decide_eq_true (by first | (with_reducible assumption) | assumption); obtain ⟨ad422, e422, hx422_0⟩ := Kd.at_string HR0.out x3_1 p422 q422; obtain rfl : ad420 = ad422 := (by injection e422); replace p422 := eq_true p422; replace q422 := eq_true q422) | (go_at_call 95; (with_reducible refine (spec_l4Number.calls k1 (rdOf ByteArray.empty l0 x3_1) t423 _ A6.out).mono ?_); rintro e w' ⟨rfl, ⟨nd, rfl⟩⟩))
              go_ret
              exact ⟨by first | rfl | (simp; done) | (simp [*]; done), by repeat (first | exact Drawn0.refl _ | apply Drawn0.step)⟩
            · rw [if_neg c7] at H
              have c7b0 : decide (t423 < 0) = false := decide_eq_false c7
              clear c7
              have H' := Aside0.mk H
              clear H
              have p420 : 0 ≤ (x3_1 : Int) := of_decide_eq_true (by first | (with_reducible assumption) | assumption)
              have q420 : x3_1 < (l0.length : Int) := of_decide_eq_true (by first | (with_reducible assumption) | assumption)
              obtain ⟨ad420, e420, hx420_0⟩ := Kd.at_string HR0.out x3_1 p420 q420
              cases e420
              replace p420 := eq_true p420
              replace q420 := eq_true q420
              go_wp2_with (first | ((with_reducible refine gate_callee (f := 94) rfl ?_); refine goesL_ (some 14) rfl rfl Try.func94 (by kernel_rfl) rfl #[.string (rdOf ByteArray.empty l0 x3_1)] rfl (by (try simp only [List.map_toArray, List.map_cons, List.map_nil]); first | done | rfl | (simp only [List.length_drop, List.length_take]; rfl)) ?_; (with_reducible refine (spec_NameOk.calls k1 (rdOf ByteArray.empty l0 x3_1) false _ A4.out).mono ?_); rintro e w' ⟨rfl, ⟨nd, rfl⟩⟩; refine ⟨_, rfl, ?_⟩; have p422 : 0 ≤ (x3_1 : Int) := of_decide_eq_true (by first | (with_reducible assumption) | assumption); have q422 : x3_1 < (l0.length : Int) := of_decide_eq_true (by first | (with_reducible assumption) | assumption); obtain ⟨ad422, e422, hx422_0⟩ := Kd.at_string HR0.out x3_1 p422 q422; obtain rfl : ad420 = ad422 := (by injection e422); replace p422 := eq_true p422; replace q422 := eq_true q422) | (go_at_call 95; (with_reducible refine (spec_l4Number.calls k1 (rdOf ByteArray.empty l0 x3_1) t423 _ A6.out).mono ?_); rintro e w' ⟨rfl, ⟨nd, rfl⟩⟩))
              go_roundg k1
              case measure => have := HK1.out; omega
              case rel => exact ⟨(wrap64 (x3_1 + 1)), (by first | rfl | (simp; done) | (simp [*]; done)), H', ⟨by have := HK1.out; omega⟩, by repeat (first | exact Drawn0.refl _ | apply Drawn0.step)⟩
        · rw [if_neg c3] at H
          exact absurd H (by simp)
      · rw [if_neg c2] at H
        have c2b0 : decide (x3_1 < (l0.length : Int)) = false := decide_eq_false c2
        clear c2
        replace H := Option.bind_eq_some_iff.mp H
        obtain ⟨t419, A80, H⟩ := H
        replace H : (some t419) = some r := H
        have A8 := Aside0.mk A80
        clear A80
        obtain rfl := Option.some.inj H
        go_wp2_with (first | ((with_reducible refine gate_callee (f := 61) rfl ?_); refine goesL_ (some 26) rfl rfl Try.func61 (by kernel_rfl) rfl #[.int .i64 (l0.length : Int), .int .i64 1, .int .i64 5] rfl (by (try simp only [List.map_toArray, List.map_cons, List.map_nil]); first | done | rfl | (simp only [List.length_drop, List.length_take]; rfl)) ?_; (with_reducible refine (spec_l1In.calls (l0.length : Int) 1 5 t419 _ A8.out).mono ?_); rintro e w' ⟨rfl, ⟨nd, rfl⟩⟩; refine ⟨_, rfl, ?_⟩))
        go_ret
        exact ⟨by first | rfl | (simp; done) | (simp [*]; done), by repeat (first | exact Drawn0.refl _ | apply Drawn0.step)⟩

end Go.Proofs.Ytchhognpijobcaa.G

/- G63 -/
-- Laid by wip/g/gprint.py out of the translation, by the kit's print program. Lean checks it.
namespace Go.Proofs.Ytchhognpijobcaa.G
open Go.RowKit Go.Proofs.YtchhognpijobcaaW.PrintWords Go.Proofs.YtchhognpijobcaaW.PrintLast Go.Proofs.YtchhognpijobcaaW.PrintMore
attribute [local go_sem] max2_int min2_int max_two min_two max_three min_three max_four min_four   -- for this text's walks alone
set_option linter.unusedVariables false
set_option linter.unusedSimpArgs false

/-! ### spec_l5Zero: function 63 -/
def spec_l5Zero.f (a0_0 : Int) (a0_1 : ByteArray) (a0_2 : Int) (l0_3 : List ByteArray) (l0_4 : List (S30)) : Option (Bool) := if a0_0 = 0 then (if a0_1.toList = ([] : List UInt8) then (if a0_2 = 0 then (if (l0_3.length : Int) = 0 then (some ((l0_4.length : Int) == 0)) else (some false)) else (some false)) else (some false)) else (some false)
set_option maxHeartbeats 8000000 in
set_option maxRecDepth 100000 in
theorem spec_l5Zero.calls (a0_0 : Int) (a0_1 : ByteArray) (a0_2 : Int) (A0_3 : Option Addr) (c0_3 : Nat) (l0_3 : List ByteArray) (A0_4 : Option Addr) (c0_4 : Nat) (l0_4 : List (S30)) (r : Bool) (w : World) (hr0_3 : Kd.C Kd.string w A0_3 l0_3.length l0_3) (hc0_3 : l0_3.length ≤ c0_3) (hr0_4 : Kd.C k30 w A0_4 l0_4.length l0_4) (hc0_4 : l0_4.length ≤ c0_4) (h : spec_l5Zero.f a0_0 a0_1 a0_2 l0_3 l0_4 = some r) :
    Calls Try.prog 63 #[.agg #[.int .i64 a0_0, .string a0_1, .int .i64 a0_2, .slice A0_3 l0_3.length c0_3, .slice A0_4 l0_4.length c0_4]] w fun e w' => e = .returned (.bool r) ∧ Below w.heap.size w w' := by
  have hu30 := Try.underlying30
  have HR0_3 := Aside0.mk hr0_3
  have HC0_3 := Aside0.mk hc0_3
  clear hr0_3 hc0_3
  have HR0_4 := Aside0.mk hr0_4
  have HC0_4 := Aside0.mk hc0_4
  clear hr0_4 hc0_4
  have HB := Aside0.mk (Below.refl w.heap.size w)
  have H : (if a0_0 = 0 then (if a0_1.toList = ([] : List UInt8) then (if a0_2 = 0 then (if (l0_3.length : Int) = 0 then (some ((l0_4.length : Int) == 0)) else (some false)) else (some false)) else (some false)) else (some false)) = some r := h
  clear h
  by_cases c2 : a0_0 = 0
  · rw [if_pos c2] at H
    have c2b0 : (a0_0 == 0) = true := beq_iff_eq.mpr c2
    have c2b1 : (a0_0 != 0) = false := bne_eq_false_iff_eq.mpr c2
    clear c2
    by_cases c3 : a0_1.toList = ([] : List UInt8)
    · rw [if_pos c3] at H
      have c3b0 : (a0_1.toList == ([] : List UInt8)) = true := beq_iff_eq.mpr c3
      have c3b1 : (a0_1.toList != ([] : List UInt8)) = false := bne_eq_false_iff_eq.mpr c3
      clear c3
      by_cases c4 : a0_2 = 0
      · rw [if_pos c4] at H
        have c4b0 : (a0_2 == 0) = true := beq_iff_eq.mpr c4
        have c4b1 : (a0_2 != 0) = false := bne_eq_false_iff_eq.mpr c4
        clear c4
        by_cases c5 : (l0_3.length : Int) = 0
        · rw [if_pos c5] at H
          have c5b0 : ((l0_3.length : Int) == 0) = true := beq_iff_eq.mpr c5
          have c5b1 : ((l0_3.length : Int) != 0) = false := bne_eq_false_iff_eq.mpr c5
          clear c5
          obtain rfl := Option.some.inj H
          go_enter Try.func63, Try.ntmps63
          go_wp2_with (first | ((with_reducible refine gate_dst (N := 1) rfl ?_); (try (refine gate_guard (by rfl) ?_; dsimp only)); refine box_event ?hg (N := 1) ?hd (cs := #[.int .i64 a0_0, .string a0_1, .int .i64 a0_2, .slice A0_3 l0_3.length c0_3, .slice A0_4 l0_4.length c0_4]) (t := 30) ?hr ?_; (case hd => rfl); (case hg => rfl); (case hr => first | (go_simp; done) | (go_simp; rfl)); intro gb424 hg w6 hbox hb; have n0_ := Aside0.mk (below_step (by repeat (first | (with_reducible first | exact HB.out | apply below_alloc | apply pw_below_drewN | apply below_drew1) | exact HB.out)) hb); have n1_ := Aside0.mk (hbox); have n2_ := Aside0.mk ((by rw [hg]; exact (below_size (by repeat (first | (with_reducible first | exact HB.out | apply below_alloc | apply pw_below_drewN | apply below_drew1) | exact HB.out))) : w.heap.size ≤ gb424)); have n3_ := Aside0.mk ((by rw [hg]; exact (below_size (by repeat (first | (with_reducible first | exact HB.out | apply below_alloc | apply pw_below_drewN | apply below_drew1) | exact HB.out))) : w.heap.size ≤ gb424)); clear HB; have HB := n0_; have BK424 := n1_; have GW424 := n2_; have GE424 := n3_; clear n0_ n1_ n2_ n3_; clear hb hbox hg; have hcz7_0 : w6.cell? ⟨gb424, 0, none⟩ = some (.int .i64 a0_0) := (blk_cell BK424.out 0).trans rfl; have hcz7_1 : w6.cell? ⟨gb424, 1, none⟩ = some (.string a0_1) := (blk_cell BK424.out 1).trans rfl; have hcz7_2 : w6.cell? ⟨gb424, 2, none⟩ = some (.int .i64 a0_2) := (blk_cell BK424.out 2).trans rfl; have hcz7_3 : w6.cell? ⟨gb424, 3, none⟩ = some (.slice A0_3 l0_3.length c0_3) := (blk_cell BK424.out 3).trans rfl; have hcz7_4 : w6.cell? ⟨gb424, 4, none⟩ = some (.slice A0_4 l0_4.length c0_4) := (blk_cell BK424.out 4).trans rfl; have hfz7_0 := blk_frozen BK424.out 0; have hfz7_1 := blk_frozen BK424.out 1; have hfz7_2 := blk_frozen BK424.out 2; have hfz7_3 := blk_frozen BK424.out 3; have hfz7_4 := blk_frozen BK424.out 4))
          go_ret
          exact ⟨by first | rfl | (simp [errW_none, errW_some] <;> rfl) | (simp [*, errW_none, errW_some] <;> rfl), by repeat (first | (with_reducible first | exact HB.out | apply below_alloc | apply pw_below_drewN | apply below_drew1 | refine below_set ?_ GE424.out) | exact HB.out)⟩
        · rw [if_neg c5] at H
          have c5b0 : ((l0_3.length : Int) == 0) = false := beq_eq_false_iff_ne.mpr c5
          have c5b1 : ((l0_3.length : Int) != 0) = true := bne_iff_ne.mpr c5
          have c5b2 : ¬ (l0_3 = []) := fun h_ => c5 (by rw [h_]; rfl)
          obtain rfl := Option.some.inj H
          go_enter Try.func63, Try.ntmps63
          go_wp2_with (first | ((with_reducible refine gate_dst (N := 1) rfl ?_); (try (refine gate_guard (by rfl) ?_; dsimp only)); refine box_event ?hg (N := 1) ?hd (cs := #[.int .i64 a0_0, .string a0_1, .int .i64 a0_2, .slice A0_3 l0_3.length c0_3, .slice A0_4 l0_4.length c0_4]) (t := 30) ?hr ?_; (case hd => rfl); (case hg => rfl); (case hr => first | (go_simp; done) | (go_simp; rfl)); intro gb424 hg w8 hbox hb; have n0_ := Aside0.mk (below_step (by repeat (first | (with_reducible first | exact HB.out | apply below_alloc | apply pw_below_drewN | apply below_drew1) | exact HB.out)) hb); have n1_ := Aside0.mk (hbox); have n2_ := Aside0.mk ((by rw [hg]; exact (below_size (by repeat (first | (with_reducible first | exact HB.out | apply below_alloc | apply pw_below_drewN | apply below_drew1) | exact HB.out))) : w.heap.size ≤ gb424)); have n3_ := Aside0.mk ((by rw [hg]; exact (below_size (by repeat (first | (with_reducible first | exact HB.out | apply below_alloc | apply pw_below_drewN | apply below_drew1) | exact HB.out))) : w.heap.size ≤ gb424)); clear HB; have HB := n0_; have BK424 := n1_; have GW424 := n2_; have GE424 := n3_; clear n0_ n1_ n2_ n3_; clear hb hbox hg; have hcz9_0 : w8.cell? ⟨gb424, 0, none⟩ = some (.int .i64 a0_0) := (blk_cell BK424.out 0).trans rfl; have hcz9_1 : w8.cell? ⟨gb424, 1, none⟩ = some (.string a0_1) := (blk_cell BK424.out 1).trans rfl; have hcz9_2 : w8.cell? ⟨gb424, 2, none⟩ = some (.int .i64 a0_2) := (blk_cell BK424.out 2).trans rfl; have hcz9_3 : w8.cell? ⟨gb424, 3, none⟩ = some (.slice A0_3 l0_3.length c0_3) := (blk_cell BK424.out 3).trans rfl; have hcz9_4 : w8.cell? ⟨gb424, 4, none⟩ = some (.slice A0_4 l0_4.length c0_4) := (blk_cell BK424.out 4).trans rfl; have hfz9_0 := blk_frozen BK424.out 0; have hfz9_1 := blk_frozen BK424.out 1; have hfz9_2 := blk_frozen BK424.out 2; have hfz9_3 := blk_frozen BK424.out 3; have hfz9_4 := blk_frozen BK424.out 4))
          go_ret
          exact ⟨by first | rfl | (simp [errW_none, errW_some] <;> rfl) | (simp [*, errW_none, errW_some] <;> rfl), by repeat (first | (with_reducible first | exact HB.out | apply below_alloc | apply pw_below_drewN | apply below_drew1 | refine below_set ?_ GE424.out) | exact HB.out)⟩
      · rw [if_neg c4] at H
        have c4b0 : (a0_2 == 0) = false := beq_eq_false_iff_ne.mpr c4
        have c4b1 : (a0_2 != 0) = true := bne_iff_ne.mpr c4
        obtain rfl := Option.some.inj H
        go_enter Try.func63, Try.ntmps63
        go_wp2_with (first | ((with_reducible refine gate_dst (N := 1) rfl ?_); (try (refine gate_guard (by rfl) ?_; dsimp only)); refine box_event ?hg (N := 1) ?hd (cs := #[.int .i64 a0_0, .string a0_1, .int .i64 a0_2, .slice A0_3 l0_3.length c0_3, .slice A0_4 l0_4.length c0_4]) (t := 30) ?hr ?_; (case hd => rfl); (case hg => rfl); (case hr => first | (go_simp; done) | (go_simp; rfl)); intro gb424 hg w10 hbox hb; have n0_ := Aside0.mk (below_step (by repeat (first | (with_reducible first | exact HB.out | apply below_alloc | apply pw_below_drewN | apply below_drew1) | exact HB.out)) hb); have n1_ := Aside0.mk (hbox); have n2_ := Aside0.mk ((by rw [hg]; exact (below_size (by repeat (first | (with_reducible first | exact HB.out | apply below_alloc | apply pw_below_drewN | apply below_drew1) | exact HB.out))) : w.heap.size ≤ gb424)); have n3_ := Aside0.mk ((by rw [hg]; exact (below_size (by repeat (first | (with_reducible first | exact HB.out | apply below_alloc | apply pw_below_drewN | apply below_drew1) | exact HB.out))) : w.heap.size ≤ gb424)); clear HB; have HB := n0_; have BK424 := n1_; have GW424 := n2_; have GE424 := n3_; clear n0_ n1_ n2_ n3_; clear hb hbox hg; have hcz11_0 : w10.cell? ⟨gb424, 0, none⟩ = some (.int .i64 a0_0) := (blk_cell BK424.out 0).trans rfl; have hcz11_1 : w10.cell? ⟨gb424, 1, none⟩ = some (.string a0_1) := (blk_cell BK424.out 1).trans rfl; have hcz11_2 : w10.cell? ⟨gb424, 2, none⟩ = some (.int .i64 a0_2) := (blk_cell BK424.out 2).trans rfl; have hcz11_3 : w10.cell? ⟨gb424, 3, none⟩ = some (.slice A0_3 l0_3.length c0_3) := (blk_cell BK424.out 3).trans rfl; have hcz11_4 : w10.cell? ⟨gb424, 4, none⟩ = some (.slice A0_4 l0_4.length c0_4) := (blk_cell BK424.out 4).trans rfl; have hfz11_0 := blk_frozen BK424.out 0; have hfz11_1 := blk_frozen BK424.out 1; have hfz11_2 := blk_frozen BK424.out 2; have hfz11_3 := blk_frozen BK424.out 3; have hfz11_4 := blk_frozen BK424.out 4))
        go_ret
        exact ⟨by first | rfl | (simp [errW_none, errW_some] <;> rfl) | (simp [*, errW_none, errW_some] <;> rfl), by repeat (first | (with_reducible first | exact HB.out | apply below_alloc | apply pw_below_drewN | apply below_drew1 | refine below_set ?_ GE424.out) | exact HB.out)⟩
    · rw [if_neg c3] at H
      have c3b0 : (a0_1.toList == ([] : List UInt8)) = false := beq_eq_false_iff_ne.mpr c3
      have c3b1 : (a0_1.toList != ([] : List UInt8)) = true := bne_iff_ne.mpr c3
      obtain rfl := Option.some.inj H
      go_enter Try.func63, Try.ntmps63
      go_wp2_with (first | ((with_reducible refine gate_dst (N := 1) rfl ?_); (try (refine gate_guard (by rfl) ?_; dsimp only)); refine box_event ?hg (N := 1) ?hd (cs := #[.int .i64 a0_0, .string a0_1, .int .i64 a0_2, .slice A0_3 l0_3.length c0_3, .slice A0_4 l0_4.length c0_4]) (t := 30) ?hr ?_; (case hd => rfl); (case hg => rfl); (case hr => first | (go_simp; done) | (go_simp; rfl)); intro gb424 hg w12 hbox hb; have n0_ := Aside0.mk (below_step (by repeat (first | (with_reducible first | exact HB.out | apply below_alloc | apply pw_below_drewN | apply below_drew1) | exact HB.out)) hb); have n1_ := Aside0.mk (hbox); have n2_ := Aside0.mk ((by rw [hg]; exact (below_size (by repeat (first | (with_reducible first | exact HB.out | apply below_alloc | apply pw_below_drewN | apply below_drew1) | exact HB.out))) : w.heap.size ≤ gb424)); have n3_ := Aside0.mk ((by rw [hg]; exact (below_size (by repeat (first | (with_reducible first | exact HB.out | apply below_alloc | apply pw_below_drewN | apply below_drew1) | exact HB.out))) : w.heap.size ≤ gb424)); clear HB; have HB := n0_; have BK424 := n1_; have GW424 := n2_; have GE424 := n3_; clear n0_ n1_ n2_ n3_; clear hb hbox hg; have hcz13_0 : w12.cell? ⟨gb424, 0, none⟩ = some (.int .i64 a0_0) := (blk_cell BK424.out 0).trans rfl; have hcz13_1 : w12.cell? ⟨gb424, 1, none⟩ = some (.string a0_1) := (blk_cell BK424.out 1).trans rfl; have hcz13_2 : w12.cell? ⟨gb424, 2, none⟩ = some (.int .i64 a0_2) := (blk_cell BK424.out 2).trans rfl; have hcz13_3 : w12.cell? ⟨gb424, 3, none⟩ = some (.slice A0_3 l0_3.length c0_3) := (blk_cell BK424.out 3).trans rfl; have hcz13_4 : w12.cell? ⟨gb424, 4, none⟩ = some (.slice A0_4 l0_4.length c0_4) := (blk_cell BK424.out 4).trans rfl; have hfz13_0 := blk_frozen BK424.out 0; have hfz13_1 := blk_frozen BK424.out 1; have hfz13_2 := blk_frozen BK424.out 2; have hfz13_3 := blk_frozen BK424.out 3; have hfz13_4 := blk_frozen BK424.out 4))
      go_ret
      exact ⟨by first | rfl | (simp [errW_none, errW_some] <;> rfl) | (simp [*, errW_none, errW_some] <;> rfl), by repeat (first | (with_reducible first | exact HB.out | apply below_alloc | apply pw_below_drewN | apply below_drew1 | refine below_set ?_ GE424.out) | exact HB.out)⟩
  · rw [if_neg c2] at H
    have c2b0 : (a0_0 == 0) = false := beq_eq_false_iff_ne.mpr c2
    have c2b1 : (a0_0 != 0) = true := bne_iff_ne.mpr c2
    obtain rfl := Option.some.inj H
    go_enter Try.func63, Try.ntmps63
    go_wp2_with (first | ((with_reducible refine gate_dst (N := 1) rfl ?_); (try (refine gate_guard (by rfl) ?_; dsimp only)); refine box_event ?hg (N := 1) ?hd (cs := #[.int .i64 a0_0, .string a0_1, .int .i64 a0_2, .slice A0_3 l0_3.length c0_3, .slice A0_4 l0_4.length c0_4]) (t := 30) ?hr ?_; (case hd => rfl); (case hg => rfl); (case hr => first | (go_simp; done) | (go_simp; rfl)); intro gb424 hg w14 hbox hb; have n0_ := Aside0.mk (below_step (by repeat (first | (with_reducible first | exact HB.out | apply below_alloc | apply pw_below_drewN | apply below_drew1) | exact HB.out)) hb); have n1_ := Aside0.mk (hbox); have n2_ := Aside0.mk ((by rw [hg]; exact (below_size (by repeat (first | (with_reducible first | exact HB.out | apply below_alloc | apply pw_below_drewN | apply below_drew1) | exact HB.out))) : w.heap.size ≤ gb424)); have n3_ := Aside0.mk ((by rw [hg]; exact (below_size (by repeat (first | (with_reducible first | exact HB.out | apply below_alloc | apply pw_below_drewN | apply below_drew1) | exact HB.out))) : w.heap.size ≤ gb424)); clear HB; have HB := n0_; have BK424 := n1_; have GW424 := n2_; have GE424 := n3_; clear n0_ n1_ n2_ n3_; clear hb hbox hg; have hcz15_0 : w14.cell? ⟨gb424, 0, none⟩ = some (.int .i64 a0_0) := (blk_cell BK424.out 0).trans rfl; have hcz15_1 : w14.cell? ⟨gb424, 1, none⟩ = some (.string a0_1) := (blk_cell BK424.out 1).trans rfl; have hcz15_2 : w14.cell? ⟨gb424, 2, none⟩ = some (.int .i64 a0_2) := (blk_cell BK424.out 2).trans rfl; have hcz15_3 : w14.cell? ⟨gb424, 3, none⟩ = some (.slice A0_3 l0_3.length c0_3) := (blk_cell BK424.out 3).trans rfl; have hcz15_4 : w14.cell? ⟨gb424, 4, none⟩ = some (.slice A0_4 l0_4.length c0_4) := (blk_cell BK424.out 4).trans rfl; have hfz15_0 := blk_frozen BK424.out 0; have hfz15_1 := blk_frozen BK424.out 1; have hfz15_2 := blk_frozen BK424.out 2; have hfz15_3 := blk_frozen BK424.out 3; have hfz15_4 := blk_frozen BK424.out 4))
    go_ret
    exact ⟨by first | rfl | (simp [errW_none, errW_some] <;> rfl) | (simp [*, errW_none, errW_some] <;> rfl), by repeat (first | (with_reducible first | exact HB.out | apply below_alloc | apply pw_below_drewN | apply below_drew1 | refine below_set ?_ GE424.out) | exact HB.out)⟩

end Go.Proofs.Ytchhognpijobcaa.G

/- G28 -/
-- Laid by wip/g/gprint.py out of the translation, by the kit's print program. Lean checks it.
namespace Go.Proofs.Ytchhognpijobcaa.G
open Go.RowKit Go.Proofs.YtchhognpijobcaaW.PrintWords Go.Proofs.YtchhognpijobcaaW.PrintLast Go.Proofs.YtchhognpijobcaaW.PrintMore
attribute [local go_sem] max2_int min2_int max_two min_two max_three min_three max_four min_four   -- for this text's walks alone
set_option linter.unusedVariables false
set_option linter.unusedSimpArgs false

/-! ### spec_PatchOk: function 28 -/
mutual
def spec_PatchOk.l0 : Nat → List (S77) → Int → Option (Bool)
  | 0, _, _ => none
  | k + 1, x0, x3 => if x3 < (x0.length : Int) then (if 0 ≤ x3 then ((spec_l1In.f ((rd_T77 x0 x3).f0) 1 3).bind fun t427 => (if t427 = true then ((spec_l5Path.f k ((rd_T77 x0 x3).f1)).bind fun t428 => (spec_PatchOk.j1 k x0 x3 (!t428) ((rd_T77 x0 x3).f0) ((rd_T77 x0 x3).f1) ((rd_T77 x0 x3).f2.f0) ((rd_T77 x0 x3).f2.f1) ((rd_T77 x0 x3).f2.f2) ((rd_T77 x0 x3).f2.f3) ((rd_T77 x0 x3).f2.f4))) else (spec_PatchOk.j1 k x0 x3 true ((rd_T77 x0 x3).f0) ((rd_T77 x0 x3).f1) ((rd_T77 x0 x3).f2.f0) ((rd_T77 x0 x3).f2.f1) ((rd_T77 x0 x3).f2.f2) ((rd_T77 x0 x3).f2.f3) ((rd_T77 x0 x3).f2.f4)))) else (none)) else (some (decide ((x0.length : Int) ≤ 20)))
def spec_PatchOk.j1 : Nat → List (S77) → Int → Bool → Int → List ByteArray → Int → ByteArray → Int → List ByteArray → List (S30) → Option (Bool)
  | 0, _, _, _, _, _, _, _, _, _, _ => none
  | k + 1, x0, x3, x24, x427000, x427001, x427002, x427003, x427004, x427005, x427006 => if x24 = true then (some false) else (if x427000 = 2 then ((spec_l5Zero.f x427002 x427003 x427004 x427005 x427006).bind fun t429 => (if t429 = true then (spec_PatchOk.l0 k x0 (wrap64 (x3 + 1))) else (some false))) else ((spec_ValueOk.f k x427002 x427003 x427004 x427005 x427006).bind fun t430 => (if t430 = true then (spec_PatchOk.l0 k x0 (wrap64 (x3 + 1))) else (some false))))
end
def spec_PatchOk.f (k : Nat) (l0 : List (S77)) : Option (Bool) := spec_PatchOk.l0 k l0 0
theorem spec_PatchOk.mono_l : ∀ k, (∀ y0 y1, LeO (spec_PatchOk.l0 k y0 y1) (spec_PatchOk.l0 (k + 1) y0 y1)) ∧ (∀ y0 y1 y2 y3 y4 y5 y6 y7 y8 y9, LeO (spec_PatchOk.j1 k y0 y1 y2 y3 y4 y5 y6 y7 y8 y9) (spec_PatchOk.j1 (k + 1) y0 y1 y2 y3 y4 y5 y6 y7 y8 y9))
  | 0 => ⟨fun _ _ r h => by simp [spec_PatchOk.l0] at h, fun _ _ _ _ _ _ _ _ _ _ r h => by simp [spec_PatchOk.j1] at h⟩
  | k + 1 => by
    obtain ⟨ih0, ih1⟩ := spec_PatchOk.mono_l k
    refine ⟨?_, ?_⟩
    · intro y0 y1
      unfold spec_PatchOk.l0
      repeat' first
      | (with_reducible exact ih0 _ _)
      | (with_reducible exact ih1 _ _ _ _ _ _ _ _ _ _)
      | (with_reducible exact spec_ValueOk.mono _ _ _ _ _ _)
      | (with_reducible exact spec_l5Path.mono _ _)
      | (with_reducible exact LeO.refl _)
      | (with_reducible exact LeO.none _)
      | (with_reducible refine LeO.ite ?_ ?_)
      | (with_reducible refine LeO.bind ?_ (fun _ => ?_))
      | exact ih0 _ _
      | exact ih1 _ _ _ _ _ _ _ _ _ _
      | exact spec_ValueOk.mono _ _ _ _ _ _
      | exact spec_l5Path.mono _ _
      | exact LeO.none _
      | refine LeO.ite ?_ ?_
      | refine LeO.bind ?_ (fun _ => ?_)
    · intro y0 y1 y2 y3 y4 y5 y6 y7 y8 y9
      unfold spec_PatchOk.j1
      repeat' first
      | (with_reducible exact ih0 _ _)
      | (with_reducible exact ih1 _ _ _ _ _ _ _ _ _ _)
      | (with_reducible exact spec_ValueOk.mono _ _ _ _ _ _)
      | (with_reducible exact spec_l5Path.mono _ _)
      | (with_reducible exact LeO.refl _)
      | (with_reducible exact LeO.none _)
      | (with_reducible refine LeO.ite ?_ ?_)
      | (with_reducible refine LeO.bind ?_ (fun _ => ?_))
      | exact ih0 _ _
      | exact ih1 _ _ _ _ _ _ _ _ _ _
      | exact spec_ValueOk.mono _ _ _ _ _ _
      | exact spec_l5Path.mono _ _
      | exact LeO.none _
      | refine LeO.ite ?_ ?_
      | refine LeO.bind ?_ (fun _ => ?_)
theorem spec_PatchOk.mono : ∀ a0 k, LeO (spec_PatchOk.f k a0) (spec_PatchOk.f (k + 1) a0) := by
  intro a0 k
  obtain ⟨ih0, ih1⟩ := spec_PatchOk.mono_l k
  unfold spec_PatchOk.f
  repeat' first
      | (with_reducible exact ih0 _ _)
      | (with_reducible exact ih1 _ _ _ _ _ _ _ _ _ _)
      | (with_reducible exact spec_ValueOk.mono _ _ _ _ _ _)
      | (with_reducible exact spec_l5Path.mono _ _)
      | (with_reducible exact LeO.refl _)
      | (with_reducible exact LeO.none _)
      | (with_reducible refine LeO.ite ?_ ?_)
      | (with_reducible refine LeO.bind ?_ (fun _ => ?_))
      | exact ih0 _ _
      | exact ih1 _ _ _ _ _ _ _ _ _ _
      | exact spec_ValueOk.mono _ _ _ _ _ _
      | exact spec_l5Path.mono _ _
      | exact LeO.none _
      | refine LeO.ite ?_ ?_
      | refine LeO.bind ?_ (fun _ => ?_)
set_option maxHeartbeats 8000000 in
set_option maxRecDepth 100000 in
theorem spec_PatchOk.calls (k : Nat) (A0 : Option Addr) (c0 : Nat) (l0 : List (S77)) (r : Bool) (w : World) (hr0 : Kd.C k77 w A0 l0.length l0) (hc0 : l0.length ≤ c0) (h : spec_PatchOk.f k l0 = some r) :
    Calls Try.prog 28 #[.slice A0 l0.length c0] w fun e w' => e = .returned (.bool r) ∧ Below w.heap.size w w' := by
  have hu77 := Try.underlying77
  have hu30 := Try.underlying30
  have HR0 := Aside0.mk hr0
  have HC0 := Aside0.mk hc0
  clear hr0 hc0
  have HB := Aside0.mk (Below.refl w.heap.size w)
  have H : (spec_PatchOk.l0 k l0 0) = some r := h
  clear h
  have H' := Aside0.mk H
  clear H
  go_enter Try.func28, Try.ntmps28
  go_wp2
  go_loopg [3] k (fun kq v3 w' => ∃ (x3_1 : Int), v3 = .int .i64 x3_1 ∧ Aside0 (spec_PatchOk.l0 kq l0 x3_1 = some r) ∧ Aside0 (kq ≤ k) ∧ Aside0 (Below w.heap.size w w'))
  case atStart => exact ⟨(0), (by first | rfl | (simp; done) | (simp [*]; done)), H', ⟨Nat.le_refl _⟩, ⟨by repeat (first | (with_reducible first | exact HB.out | apply below_alloc | apply pw_below_drewN | apply below_drew1) | exact HB.out)⟩⟩
  case round =>
    clear H'
    obtain ⟨x3_1, rfl, HA, HK1, HB⟩ := hrel
    cases gk with
    | zero => exact absurd HA.out (by simp [spec_PatchOk.l0])
    | succ k1 =>
      have H := HA.out
      clear HA
      simp only [spec_PatchOk.l0] at H
      by_cases c2 : x3_1 < (l0.length : Int)
      · rw [if_pos c2] at H
        have c2b0 : decide (x3_1 < (l0.length : Int)) = true := decide_eq_true c2
        clear c2
        by_cases c3 : 0 ≤ x3_1
        · rw [if_pos c3] at H
          have c3b0 : decide (0 ≤ x3_1) = true := decide_eq_true c3
          clear c3
          have HC4 := Aside0.mk H
          clear H
          have p425 : 0 ≤ (x3_1 : Int) := of_decide_eq_true (by first | (with_reducible assumption) | assumption)
          have q425 : x3_1 < (l0.length : Int) := of_decide_eq_true (by first | (with_reducible assumption) | assumption)
          obtain ⟨ad425, A425_1, c425_1, A425_5, c425_5, A425_6, c425_6, e425, hx425_0, hx425_1, hx425_2, hx425_3, hx425_4, hx425_5, hx425_6, hl425_1, hi425_1, hl425_5, hi425_5, hl425_6, hi425_6⟩ := at_T77 HR0.out x3_1 p425 q425
          cases e425
          replace hx425_0 := (HB.out.cell (World.block_lt_of_cell? w _ hx425_0)).trans hx425_0
          replace hx425_1 := (HB.out.cell (World.block_lt_of_cell? w _ hx425_1)).trans hx425_1
          replace hx425_2 := (HB.out.cell (World.block_lt_of_cell? w _ hx425_2)).trans hx425_2
          replace hx425_3 := (HB.out.cell (World.block_lt_of_cell? w _ hx425_3)).trans hx425_3
          replace hx425_4 := (HB.out.cell (World.block_lt_of_cell? w _ hx425_4)).trans hx425_4
          replace hx425_5 := (HB.out.cell (World.block_lt_of_cell? w _ hx425_5)).trans hx425_5
          replace hx425_6 := (HB.out.cell (World.block_lt_of_cell? w _ hx425_6)).trans hx425_6
          have HR425_1 := Aside0.mk hi425_1
          have HC425_1 := Aside0.mk hl425_1
          clear hi425_1 hl425_1
          have HR425_5 := Aside0.mk hi425_5
          have HC425_5 := Aside0.mk hl425_5
          clear hi425_5 hl425_5
          have HR425_6 := Aside0.mk hi425_6
          have HC425_6 := Aside0.mk hl425_6
          clear hi425_6 hl425_6
          replace p425 := eq_true p425
          replace q425 := eq_true q425
          go_upto_region 5 with (first | ((with_reducible refine gate_dst (N := 4) rfl ?_); refine box_event ?hg (N := 4) ?hd (cs := #[.int .i64 0, .slice none 0 0, .int .i64 0, .string (⟨#[]⟩ : ByteArray), .int .i64 0, .slice none 0 0, .slice none 0 0]) (t := 77) ?hr ?_; (case hd => rfl); (case hg => rfl); (case hr => first | (go_simp; done) | (go_simp; rfl)); intro gb426 hg w5 hbox hb; have n0_ := Aside0.mk (below_step (by repeat (first | (with_reducible first | exact HB.out | apply below_alloc | apply pw_below_drewN | apply below_drew1) | exact HB.out)) hb); have n1_ := Aside0.mk (hbox); have n2_ := Aside0.mk ((by rw [hg]; exact (below_size (by repeat (first | (with_reducible first | exact HB.out | apply below_alloc | apply pw_below_drewN | apply below_drew1) | exact HB.out))) : w.heap.size ≤ gb426)); have n3_ := Aside0.mk ((by rw [hg]; exact (below_size (by repeat (first | (with_reducible first | exact HB.out | apply below_alloc | apply pw_below_drewN | apply below_drew1) | exact HB.out))) : w.heap.size ≤ gb426)); clear HB; have HB := n0_; have BK426 := n1_; have GW426 := n2_; have GE426 := n3_; clear n0_ n1_ n2_ n3_; clear hb hbox hg; have hcz6_0 : w5.cell? ⟨gb426, 0, none⟩ = some (.int .i64 0) := (blk_cell BK426.out 0).trans rfl; have hcz6_1 : w5.cell? ⟨gb426, 1, none⟩ = some (.slice none 0 0) := (blk_cell BK426.out 1).trans rfl; have hcz6_2 : w5.cell? ⟨gb426, 2, none⟩ = some (.int .i64 0) := (blk_cell BK426.out 2).trans rfl; have hcz6_3 : w5.cell? ⟨gb426, 3, none⟩ = some (.string (⟨#[]⟩ : ByteArray)) := (blk_cell BK426.out 3).trans rfl; have hcz6_4 : w5.cell? ⟨gb426, 4, none⟩ = some (.int .i64 0) := (blk_cell BK426.out 4).trans rfl; have hcz6_5 : w5.cell? ⟨gb426, 5, none⟩ = some (.slice none 0 0) := (blk_cell BK426.out 5).trans rfl; have hcz6_6 : w5.cell? ⟨gb426, 6, none⟩ = some (.slice none 0 0) := (blk_cell BK426.out 6).trans rfl; have hfz6_0 := blk_frozen BK426.out 0; have hfz6_1 := blk_frozen BK426.out 1; have hfz6_2 := blk_frozen BK426.out 2; have hfz6_3 := blk_frozen BK426.out 3; have hfz6_4 := blk_frozen BK426.out 4; have hfz6_5 := blk_frozen BK426.out 5; have hfz6_6 := blk_frozen BK426.out 6))
          (try simp only [Act.put, List.setIfInBounds_toArray, List.set_cons_zero, List.set_cons_succ])
          go_cut [24] (fun v24 wc => ∃ (kq : Nat) (x24_3 : Bool), v24 = .bool x24_3 ∧ Aside0 (spec_PatchOk.j1 kq l0 x3_1 x24_3 ((rd_T77 l0 x3_1).f0) ((rd_T77 l0 x3_1).f1) ((rd_T77 l0 x3_1).f2.f0) ((rd_T77 l0 x3_1).f2.f1) ((rd_T77 l0 x3_1).f2.f2) ((rd_T77 l0 x3_1).f2.f3) ((rd_T77 l0 x3_1).f2.f4) = some r) ∧ Aside0 (kq ≤ k1) ∧ Aside0 (wc.heap[gb426]? = some (.cells #[.int .i64 ((rd_T77 l0 x3_1).f0), (.slice A425_1 ((rd_T77 l0 x3_1).f1).length c425_1), .int .i64 ((rd_T77 l0 x3_1).f2.f0), .string ((rd_T77 l0 x3_1).f2.f1), .int .i64 ((rd_T77 l0 x3_1).f2.f2), (.slice A425_5 ((rd_T77 l0 x3_1).f2.f3).length c425_5), (.slice A425_6 ((rd_T77 l0 x3_1).f2.f4).length c425_6)] 77 (0, 0))) ∧ Aside0 (Below w.heap.size w wc))
          case first =>
            have H := HC4.out
            clear HC4
            replace H := Option.bind_eq_some_iff.mp H
            obtain ⟨t427, A70, H⟩ := H
            replace H : (if t427 = true then ((spec_l5Path.f k1 ((rd_T77 l0 x3_1).f1)).bind fun t428 => (spec_PatchOk.j1 k1 l0 x3_1 (!t428) ((rd_T77 l0 x3_1).f0) ((rd_T77 l0 x3_1).f1) ((rd_T77 l0 x3_1).f2.f0) ((rd_T77 l0 x3_1).f2.f1) ((rd_T77 l0 x3_1).f2.f2) ((rd_T77 l0 x3_1).f2.f3) ((rd_T77 l0 x3_1).f2.f4))) else (spec_PatchOk.j1 k1 l0 x3_1 true ((rd_T77 l0 x3_1).f0) ((rd_T77 l0 x3_1).f1) ((rd_T77 l0 x3_1).f2.f0) ((rd_T77 l0 x3_1).f2.f1) ((rd_T77 l0 x3_1).f2.f2) ((rd_T77 l0 x3_1).f2.f3) ((rd_T77 l0 x3_1).f2.f4))) = some r := H
            have A7 := Aside0.mk A70
            clear A70
            by_cases c8 : t427 = true
            · subst c8
              have H1 : ((spec_l5Path.f k1 ((rd_T77 l0 x3_1).f1)).bind fun t428 => (spec_PatchOk.j1 k1 l0 x3_1 (!t428) ((rd_T77 l0 x3_1).f0) ((rd_T77 l0 x3_1).f1) ((rd_T77 l0 x3_1).f2.f0) ((rd_T77 l0 x3_1).f2.f1) ((rd_T77 l0 x3_1).f2.f2) ((rd_T77 l0 x3_1).f2.f3) ((rd_T77 l0 x3_1).f2.f4))) = some r := by rw [if_pos rfl] at H; exact H
              clear H
              have H := H1
              clear H1
              replace H := Option.bind_eq_some_iff.mp H
              obtain ⟨t428, A90, H⟩ := H
              replace H : (spec_PatchOk.j1 k1 l0 x3_1 (!t428) ((rd_T77 l0 x3_1).f0) ((rd_T77 l0 x3_1).f1) ((rd_T77 l0 x3_1).f2.f0) ((rd_T77 l0 x3_1).f2.f1) ((rd_T77 l0 x3_1).f2.f2) ((rd_T77 l0 x3_1).f2.f3) ((rd_T77 l0 x3_1).f2.f4)) = some r := H
              have A9 := Aside0.mk A90
              clear A90
              have H' := Aside0.mk H
              clear H
              have hcz10_0 : w5.cell? ⟨gb426, 0, none⟩ = some (.int .i64 0) := (blk_cell BK426.out 0).trans rfl
              have hcz10_1 : w5.cell? ⟨gb426, 1, none⟩ = some (.slice none 0 0) := (blk_cell BK426.out 1).trans rfl
              have hcz10_2 : w5.cell? ⟨gb426, 2, none⟩ = some (.int .i64 0) := (blk_cell BK426.out 2).trans rfl
              have hcz10_3 : w5.cell? ⟨gb426, 3, none⟩ = some (.string (⟨#[]⟩ : ByteArray)) := (blk_cell BK426.out 3).trans rfl
              have hcz10_4 : w5.cell? ⟨gb426, 4, none⟩ = some (.int .i64 0) := (blk_cell BK426.out 4).trans rfl
              have hcz10_5 : w5.cell? ⟨gb426, 5, none⟩ = some (.slice none 0 0) := (blk_cell BK426.out 5).trans rfl
              have hcz10_6 : w5.cell? ⟨gb426, 6, none⟩ = some (.slice none 0 0) := (blk_cell BK426.out 6).trans rfl
              have hfz10_0 := blk_frozen BK426.out 0
              have hfz10_1 := blk_frozen BK426.out 1
              have hfz10_2 := blk_frozen BK426.out 2
              have hfz10_3 := blk_frozen BK426.out 3
              have hfz10_4 := blk_frozen BK426.out 4
              have hfz10_5 := blk_frozen BK426.out 5
              have hfz10_6 := blk_frozen BK426.out 6
              go_wp2_with (first | ((with_reducible refine gate_callee (f := 61) rfl ?_); refine goesL_ (some 17) rfl rfl Try.func61 (by kernel_rfl) rfl #[.int .i64 ((rd_T77 l0 x3_1).f0), .int .i64 1, .int .i64 3] rfl (by (try simp only [List.map_toArray, List.map_cons, List.map_nil]); first | done | rfl | (simp only [List.length_drop, List.length_take]; rfl)) ?_; (with_reducible refine (spec_l1In.calls ((rd_T77 l0 x3_1).f0) 1 3 true _ A7.out).mono ?_); rintro e w' ⟨rfl, ⟨nd, rfl⟩⟩; refine ⟨_, rfl, ?_⟩) | (go_at_call 62; (with_reducible refine (spec_l5Path.calls k1 _ _ ((rd_T77 l0 x3_1).f1) t428 _ ?side1 ?side2 A9.out).mono ?_); (case side1 => exact Kd.C_below HR425_1.out (by repeat (first | (with_reducible first | exact HB.out | apply below_alloc | apply pw_below_drewN | apply below_drew1 | refine below_set ?_ GE426.out) | exact HB.out))); (case side2 => exact HC425_1.out); rintro e w' ⟨rfl, ⟨nd, rfl⟩⟩))
              go_meet
              case rel => exact ⟨_, (!t428), (by first | rfl | (simp; done) | (simp [*]; done)), H', ⟨by have := HK1.out; first | omega | exact Nat.le_refl _⟩, ⟨by (with_reducible repeat (first | refine blk_drewN ?_ _ | refine blk_drew ?_ | refine blk_alloc ?_ _)); refine blk_put (cs := #[.int .i64 ((rd_T77 l0 x3_1).f0), .slice A425_1 ((rd_T77 l0 x3_1).f1).length c425_1, .int .i64 ((rd_T77 l0 x3_1).f2.f0), .string ((rd_T77 l0 x3_1).f2.f1), .int .i64 ((rd_T77 l0 x3_1).f2.f2), .slice A425_5 ((rd_T77 l0 x3_1).f2.f3).length c425_5, .slice none 0 0]) ?_ 6 _ rfl; (with_reducible repeat (first | refine blk_drewN ?_ _ | refine blk_drew ?_ | refine blk_alloc ?_ _)); refine blk_put (cs := #[.int .i64 ((rd_T77 l0 x3_1).f0), .slice A425_1 ((rd_T77 l0 x3_1).f1).length c425_1, .int .i64 ((rd_T77 l0 x3_1).f2.f0), .string ((rd_T77 l0 x3_1).f2.f1), .int .i64 ((rd_T77 l0 x3_1).f2.f2), .slice none 0 0, .slice none 0 0]) ?_ 5 _ rfl; (with_reducible repeat (first | refine blk_drewN ?_ _ | refine blk_drew ?_ | refine blk_alloc ?_ _)); refine blk_put (cs := #[.int .i64 ((rd_T77 l0 x3_1).f0), .slice A425_1 ((rd_T77 l0 x3_1).f1).length c425_1, .int .i64 ((rd_T77 l0 x3_1).f2.f0), .string ((rd_T77 l0 x3_1).f2.f1), .int .i64 0, .slice none 0 0, .slice none 0 0]) ?_ 4 _ rfl; (with_reducible repeat (first | refine blk_drewN ?_ _ | refine blk_drew ?_ | refine blk_alloc ?_ _)); refine blk_put (cs := #[.int .i64 ((rd_T77 l0 x3_1).f0), .slice A425_1 ((rd_T77 l0 x3_1).f1).length c425_1, .int .i64 ((rd_T77 l0 x3_1).f2.f0), .string (⟨#[]⟩ : ByteArray), .int .i64 0, .slice none 0 0, .slice none 0 0]) ?_ 3 _ rfl; (with_reducible repeat (first | refine blk_drewN ?_ _ | refine blk_drew ?_ | refine blk_alloc ?_ _)); refine blk_put (cs := #[.int .i64 ((rd_T77 l0 x3_1).f0), .slice A425_1 ((rd_T77 l0 x3_1).f1).length c425_1, .int .i64 0, .string (⟨#[]⟩ : ByteArray), .int .i64 0, .slice none 0 0, .slice none 0 0]) ?_ 2 _ rfl; (with_reducible repeat (first | refine blk_drewN ?_ _ | refine blk_drew ?_ | refine blk_alloc ?_ _)); refine blk_put (cs := #[.int .i64 ((rd_T77 l0 x3_1).f0), .slice none 0 0, .int .i64 0, .string (⟨#[]⟩ : ByteArray), .int .i64 0, .slice none 0 0, .slice none 0 0]) ?_ 1 _ rfl; (with_reducible repeat (first | refine blk_drewN ?_ _ | refine blk_drew ?_ | refine blk_alloc ?_ _)); refine blk_put (cs := #[.int .i64 0, .slice none 0 0, .int .i64 0, .string (⟨#[]⟩ : ByteArray), .int .i64 0, .slice none 0 0, .slice none 0 0]) ?_ 0 _ rfl; (with_reducible repeat (first | refine blk_drewN ?_ _ | refine blk_drew ?_ | refine blk_alloc ?_ _)); exact BK426.out⟩, ⟨by repeat (first | (with_reducible first | exact HB.out | apply below_alloc | apply pw_below_drewN | apply below_drew1 | refine below_set ?_ GE426.out) | exact HB.out)⟩⟩
            · replace c8 := Bool.eq_false_iff.mpr c8
              subst c8
              have H1 : (spec_PatchOk.j1 k1 l0 x3_1 true ((rd_T77 l0 x3_1).f0) ((rd_T77 l0 x3_1).f1) ((rd_T77 l0 x3_1).f2.f0) ((rd_T77 l0 x3_1).f2.f1) ((rd_T77 l0 x3_1).f2.f2) ((rd_T77 l0 x3_1).f2.f3) ((rd_T77 l0 x3_1).f2.f4)) = some r := by rw [if_neg (show ¬ (false = true) by decide)] at H; exact H
              clear H
              have H := H1
              clear H1
              have H' := Aside0.mk H
              clear H
              have hcz11_0 : w5.cell? ⟨gb426, 0, none⟩ = some (.int .i64 0) := (blk_cell BK426.out 0).trans rfl
              have hcz11_1 : w5.cell? ⟨gb426, 1, none⟩ = some (.slice none 0 0) := (blk_cell BK426.out 1).trans rfl
              have hcz11_2 : w5.cell? ⟨gb426, 2, none⟩ = some (.int .i64 0) := (blk_cell BK426.out 2).trans rfl
              have hcz11_3 : w5.cell? ⟨gb426, 3, none⟩ = some (.string (⟨#[]⟩ : ByteArray)) := (blk_cell BK426.out 3).trans rfl
              have hcz11_4 : w5.cell? ⟨gb426, 4, none⟩ = some (.int .i64 0) := (blk_cell BK426.out 4).trans rfl
              have hcz11_5 : w5.cell? ⟨gb426, 5, none⟩ = some (.slice none 0 0) := (blk_cell BK426.out 5).trans rfl
              have hcz11_6 : w5.cell? ⟨gb426, 6, none⟩ = some (.slice none 0 0) := (blk_cell BK426.out 6).trans rfl
              have hfz11_0 := blk_frozen BK426.out 0
              have hfz11_1 := blk_frozen BK426.out 1
              have hfz11_2 := blk_frozen BK426.out 2
              have hfz11_3 := blk_frozen BK426.out 3
              have hfz11_4 := blk_frozen BK426.out 4
              have hfz11_5 := blk_frozen BK426.out 5
              have hfz11_6 := blk_frozen BK426.out 6
              go_wp2_with (first | ((with_reducible refine gate_callee (f := 61) rfl ?_); refine goesL_ (some 17) rfl rfl Try.func61 (by kernel_rfl) rfl #[.int .i64 ((rd_T77 l0 x3_1).f0), .int .i64 1, .int .i64 3] rfl (by (try simp only [List.map_toArray, List.map_cons, List.map_nil]); first | done | rfl | (simp only [List.length_drop, List.length_take]; rfl)) ?_; (with_reducible refine (spec_l1In.calls ((rd_T77 l0 x3_1).f0) 1 3 false _ A7.out).mono ?_); rintro e w' ⟨rfl, ⟨nd, rfl⟩⟩; refine ⟨_, rfl, ?_⟩))
              go_meet
              case rel => exact ⟨_, (true), (by first | rfl | (simp; done) | (simp [*]; done)), H', ⟨by have := HK1.out; first | omega | exact Nat.le_refl _⟩, ⟨by (with_reducible repeat (first | refine blk_drewN ?_ _ | refine blk_drew ?_ | refine blk_alloc ?_ _)); refine blk_put (cs := #[.int .i64 ((rd_T77 l0 x3_1).f0), .slice A425_1 ((rd_T77 l0 x3_1).f1).length c425_1, .int .i64 ((rd_T77 l0 x3_1).f2.f0), .string ((rd_T77 l0 x3_1).f2.f1), .int .i64 ((rd_T77 l0 x3_1).f2.f2), .slice A425_5 ((rd_T77 l0 x3_1).f2.f3).length c425_5, .slice none 0 0]) ?_ 6 _ rfl; (with_reducible repeat (first | refine blk_drewN ?_ _ | refine blk_drew ?_ | refine blk_alloc ?_ _)); refine blk_put (cs := #[.int .i64 ((rd_T77 l0 x3_1).f0), .slice A425_1 ((rd_T77 l0 x3_1).f1).length c425_1, .int .i64 ((rd_T77 l0 x3_1).f2.f0), .string ((rd_T77 l0 x3_1).f2.f1), .int .i64 ((rd_T77 l0 x3_1).f2.f2), .slice none 0 0, .slice none 0 0]) ?_ 5 _ rfl; (with_reducible repeat (first | refine blk_drewN ?_ _ | refine blk_drew ?_ | refine blk_alloc ?_ _)); refine blk_put (cs := #[.int .i64 ((rd_T77 l0 x3_1).f0), .slice A425_1 ((rd_T77 l0 x3_1).f1).length c425_1, .int .i64 ((rd_T77 l0 x3_1).f2.f0), .string ((rd_T77 l0 x3_1).f2.f1), .int .i64 0, .slice none 0 0, .slice none 0 0]) ?_ 4 _ rfl; (with_reducible repeat (first | refine blk_drewN ?_ _ | refine blk_drew ?_ | refine blk_alloc ?_ _)); refine blk_put (cs := #[.int .i64 ((rd_T77 l0 x3_1).f0), .slice A425_1 ((rd_T77 l0 x3_1).f1).length c425_1, .int .i64 ((rd_T77 l0 x3_1).f2.f0), .string (⟨#[]⟩ : ByteArray), .int .i64 0, .slice none 0 0, .slice none 0 0]) ?_ 3 _ rfl; (with_reducible repeat (first | refine blk_drewN ?_ _ | refine blk_drew ?_ | refine blk_alloc ?_ _)); refine blk_put (cs := #[.int .i64 ((rd_T77 l0 x3_1).f0), .slice A425_1 ((rd_T77 l0 x3_1).f1).length c425_1, .int .i64 0, .string (⟨#[]⟩ : ByteArray), .int .i64 0, .slice none 0 0, .slice none 0 0]) ?_ 2 _ rfl; (with_reducible repeat (first | refine blk_drewN ?_ _ | refine blk_drew ?_ | refine blk_alloc ?_ _)); refine blk_put (cs := #[.int .i64 ((rd_T77 l0 x3_1).f0), .slice none 0 0, .int .i64 0, .string (⟨#[]⟩ : ByteArray), .int .i64 0, .slice none 0 0, .slice none 0 0]) ?_ 1 _ rfl; (with_reducible repeat (first | refine blk_drewN ?_ _ | refine blk_drew ?_ | refine blk_alloc ?_ _)); refine blk_put (cs := #[.int .i64 0, .slice none 0 0, .int .i64 0, .string (⟨#[]⟩ : ByteArray), .int .i64 0, .slice none 0 0, .slice none 0 0]) ?_ 0 _ rfl; (with_reducible repeat (first | refine blk_drewN ?_ _ | refine blk_drew ?_ | refine blk_alloc ?_ _)); exact BK426.out⟩, ⟨by repeat (first | (with_reducible first | exact HB.out | apply below_alloc | apply pw_below_drewN | apply below_drew1 | refine below_set ?_ GE426.out) | exact HB.out)⟩⟩
          case rest =>
            clear HC4
            try clear c2
            try clear c2b0
            try clear p2
            try clear c3
            try clear c3b0
            try clear c4
            try clear p4
            try clear q4
            try clear hx4
            try clear c6
            try clear c8
            try clear hcz10_0
            try clear hcz10_1
            try clear hcz10_2
            try clear hcz10_3
            try clear hcz10_4
            try clear hcz10_5
            try clear hcz10_6
            try clear hcz11_0
            try clear hcz11_1
            try clear hcz11_2
            try clear hcz11_3
            try clear hcz11_4
            try clear hcz11_5
            try clear hcz11_6
            try clear hcz6_0
            try clear hcz6_1
            try clear hcz6_2
            try clear hcz6_3
            try clear hcz6_4
            try clear hcz6_5
            try clear hcz6_6
            try clear hfz10_0
            try clear hfz10_1
            try clear hfz10_2
            try clear hfz10_3
            try clear hfz10_4
            try clear hfz10_5
            try clear hfz10_6
            try clear hfz11_0
            try clear hfz11_1
            try clear hfz11_2
            try clear hfz11_3
            try clear hfz11_4
            try clear hfz11_5
            try clear hfz11_6
            try clear hfz6_0
            try clear hfz6_1
            try clear hfz6_2
            try clear hfz6_3
            try clear hfz6_4
            try clear hfz6_5
            try clear hfz6_6
            try clear hx425_0
            try clear hx425_1
            try clear hx425_2
            try clear hx425_3
            try clear hx425_4
            try clear hx425_5
            try clear hx425_6
            try clear p425
            try clear q425
            obtain ⟨kq, x24_3, rfl, HA, HJ3, BK426, HB⟩ := hcut
            cases kq with
            | zero => exact absurd HA.out (by simp [spec_PatchOk.j1])
            | succ kj3 =>
              have H := HA.out
              clear HA
              simp only [spec_PatchOk.j1] at H
              by_cases c12 : x24_3 = true
              · subst c12
                have H1 : (some false) = some r := by rw [if_pos rfl] at H; exact H
                clear H
                have H := H1
                clear H1
                obtain rfl := Option.some.inj H
                go_wp2
                go_ret
                exact ⟨by first | rfl | (simp [errW_none, errW_some] <;> rfl) | (simp [*, errW_none, errW_some] <;> rfl), by repeat (first | (with_reducible first | exact HB.out | apply below_alloc | apply pw_below_drewN | apply below_drew1 | refine below_set ?_ GE426.out) | exact HB.out)⟩
              · replace c12 := Bool.eq_false_iff.mpr c12
                subst c12
                have H1 : (if ((rd_T77 l0 x3_1).f0) = 2 then ((spec_l5Zero.f ((rd_T77 l0 x3_1).f2.f0) ((rd_T77 l0 x3_1).f2.f1) ((rd_T77 l0 x3_1).f2.f2) ((rd_T77 l0 x3_1).f2.f3) ((rd_T77 l0 x3_1).f2.f4)).bind fun t429 => (if t429 = true then (spec_PatchOk.l0 kj3 l0 (wrap64 (x3_1 + 1))) else (some false))) else ((spec_ValueOk.f kj3 ((rd_T77 l0 x3_1).f2.f0) ((rd_T77 l0 x3_1).f2.f1) ((rd_T77 l0 x3_1).f2.f2) ((rd_T77 l0 x3_1).f2.f3) ((rd_T77 l0 x3_1).f2.f4)).bind fun t430 => (if t430 = true then (spec_PatchOk.l0 kj3 l0 (wrap64 (x3_1 + 1))) else (some false)))) = some r := by rw [if_neg (show ¬ (false = true) by decide)] at H; exact H
                clear H
                have H := H1
                clear H1
                by_cases c13 : ((rd_T77 l0 x3_1).f0) = 2
                · rw [if_pos c13] at H
                  have c13b0 : (((rd_T77 l0 x3_1).f0) == 2) = true := beq_iff_eq.mpr c13
                  have c13b1 : (((rd_T77 l0 x3_1).f0) != 2) = false := bne_eq_false_iff_eq.mpr c13
                  clear c13
                  replace H := Option.bind_eq_some_iff.mp H
                  obtain ⟨t429, A140, H⟩ := H
                  replace H : (if t429 = true then (spec_PatchOk.l0 kj3 l0 (wrap64 (x3_1 + 1))) else (some false)) = some r := H
                  have A14 := Aside0.mk A140
                  clear A140
                  by_cases c15 : t429 = true
                  · subst c15
                    have H1 : (spec_PatchOk.l0 kj3 l0 (wrap64 (x3_1 + 1))) = some r := by rw [if_pos rfl] at H; exact H
                    clear H
                    have H := H1
                    clear H1
                    have H' := Aside0.mk H
                    clear H
                    have hcz16_0 : wc.cell? ⟨gb426, 0, none⟩ = some (.int .i64 ((rd_T77 l0 x3_1).f0)) := (blk_cell BK426.out 0).trans rfl
                    have hcz16_1 : wc.cell? ⟨gb426, 1, none⟩ = some (.slice A425_1 ((rd_T77 l0 x3_1).f1).length c425_1) := (blk_cell BK426.out 1).trans rfl
                    have hcz16_2 : wc.cell? ⟨gb426, 2, none⟩ = some (.int .i64 ((rd_T77 l0 x3_1).f2.f0)) := (blk_cell BK426.out 2).trans rfl
                    have hcz16_3 : wc.cell? ⟨gb426, 3, none⟩ = some (.string ((rd_T77 l0 x3_1).f2.f1)) := (blk_cell BK426.out 3).trans rfl
                    have hcz16_4 : wc.cell? ⟨gb426, 4, none⟩ = some (.int .i64 ((rd_T77 l0 x3_1).f2.f2)) := (blk_cell BK426.out 4).trans rfl
                    have hcz16_5 : wc.cell? ⟨gb426, 5, none⟩ = some (.slice A425_5 ((rd_T77 l0 x3_1).f2.f3).length c425_5) := (blk_cell BK426.out 5).trans rfl
                    have hcz16_6 : wc.cell? ⟨gb426, 6, none⟩ = some (.slice A425_6 ((rd_T77 l0 x3_1).f2.f4).length c425_6) := (blk_cell BK426.out 6).trans rfl
                    have hfz16_0 := blk_frozen BK426.out 0
                    have hfz16_1 := blk_frozen BK426.out 1
                    have hfz16_2 := blk_frozen BK426.out 2
                    have hfz16_3 := blk_frozen BK426.out 3
                    have hfz16_4 := blk_frozen BK426.out 4
                    have hfz16_5 := blk_frozen BK426.out 5
                    have hfz16_6 := blk_frozen BK426.out 6
                    go_wp2_with (first | (go_at_call 63; (with_reducible refine (spec_l5Zero.calls ((rd_T77 l0 x3_1).f2.f0) ((rd_T77 l0 x3_1).f2.f1) ((rd_T77 l0 x3_1).f2.f2) _ _ ((rd_T77 l0 x3_1).f2.f3) _ _ ((rd_T77 l0 x3_1).f2.f4) true _ ?side1 ?side2 ?side3 ?side4 A14.out).mono ?_); (case side1 => repeat (first | exact (Kd.C_below HR425_5.out HB.out) | (with_reducible refine Kd.C_alloc ?_ _) | (with_reducible refine Kd.C_drewN ?_ _) | (with_reducible refine Kd.C_drew ?_))); (case side2 => exact HC425_5.out); (case side3 => repeat (first | exact (Kd.C_below HR425_6.out HB.out) | (with_reducible refine Kd.C_alloc ?_ _) | (with_reducible refine Kd.C_drewN ?_ _) | (with_reducible refine Kd.C_drew ?_))); (case side4 => exact HC425_6.out); rintro e w17 ⟨rfl, hb⟩; have n0_ := Aside0.mk (blk_below (g := gb426) (o := .cells #[.int .i64 ((rd_T77 l0 x3_1).f0), .slice A425_1 ((rd_T77 l0 x3_1).f1).length c425_1, .int .i64 ((rd_T77 l0 x3_1).f2.f0), .string ((rd_T77 l0 x3_1).f2.f1), .int .i64 ((rd_T77 l0 x3_1).f2.f2), .slice A425_5 ((rd_T77 l0 x3_1).f2.f3).length c425_5, .slice A425_6 ((rd_T77 l0 x3_1).f2.f4).length c425_6] 77 (0, 0)) (by (with_reducible repeat (first | refine blk_drewN ?_ _ | refine blk_drew ?_ | refine blk_alloc ?_ _)); exact BK426.out) hb); have n1_ := Aside0.mk (below_step (by repeat (first | (with_reducible first | exact HB.out | apply below_alloc | apply pw_below_drewN | apply below_drew1 | refine below_set ?_ GE426.out) | exact HB.out)) hb); clear BK426; clear HB; have BK426 := n0_; have HB := n1_; clear n0_ n1_; (try clear hb); (try clear hb2); (try clear hk); (try clear hi); have hcz18_0 : w17.cell? ⟨gb426, 0, none⟩ = some (.int .i64 ((rd_T77 l0 x3_1).f0)) := (blk_cell BK426.out 0).trans rfl; have hcz18_1 : w17.cell? ⟨gb426, 1, none⟩ = some (.slice A425_1 ((rd_T77 l0 x3_1).f1).length c425_1) := (blk_cell BK426.out 1).trans rfl; have hcz18_2 : w17.cell? ⟨gb426, 2, none⟩ = some (.int .i64 ((rd_T77 l0 x3_1).f2.f0)) := (blk_cell BK426.out 2).trans rfl; have hcz18_3 : w17.cell? ⟨gb426, 3, none⟩ = some (.string ((rd_T77 l0 x3_1).f2.f1)) := (blk_cell BK426.out 3).trans rfl; have hcz18_4 : w17.cell? ⟨gb426, 4, none⟩ = some (.int .i64 ((rd_T77 l0 x3_1).f2.f2)) := (blk_cell BK426.out 4).trans rfl; have hcz18_5 : w17.cell? ⟨gb426, 5, none⟩ = some (.slice A425_5 ((rd_T77 l0 x3_1).f2.f3).length c425_5) := (blk_cell BK426.out 5).trans rfl; have hcz18_6 : w17.cell? ⟨gb426, 6, none⟩ = some (.slice A425_6 ((rd_T77 l0 x3_1).f2.f4).length c425_6) := (blk_cell BK426.out 6).trans rfl; have hfz18_0 := blk_frozen BK426.out 0; have hfz18_1 := blk_frozen BK426.out 1; have hfz18_2 := blk_frozen BK426.out 2; have hfz18_3 := blk_frozen BK426.out 3; have hfz18_4 := blk_frozen BK426.out 4; have hfz18_5 := blk_frozen BK426.out 5; have hfz18_6 := blk_frozen BK426.out 6))
                    go_roundg kj3
                    case measure => have := HK1.out; have := HJ3.out; omega
                    case rel => exact ⟨(wrap64 (x3_1 + 1)), (by first | rfl | (simp; done) | (simp [*]; done)), H', ⟨by have := HK1.out; have := HJ3.out; omega⟩, ⟨by repeat (first | (with_reducible first | exact HB.out | apply below_alloc | apply pw_below_drewN | apply below_drew1 | refine below_set ?_ GE426.out) | exact HB.out)⟩⟩
                  · replace c15 := Bool.eq_false_iff.mpr c15
                    subst c15
                    have H1 : (some false) = some r := by rw [if_neg (show ¬ (false = true) by decide)] at H; exact H
                    clear H
                    have H := H1
                    clear H1
                    obtain rfl := Option.some.inj H
                    have hcz19_0 : wc.cell? ⟨gb426, 0, none⟩ = some (.int .i64 ((rd_T77 l0 x3_1).f0)) := (blk_cell BK426.out 0).trans rfl
                    have hcz19_1 : wc.cell? ⟨gb426, 1, none⟩ = some (.slice A425_1 ((rd_T77 l0 x3_1).f1).length c425_1) := (blk_cell BK426.out 1).trans rfl
                    have hcz19_2 : wc.cell? ⟨gb426, 2, none⟩ = some (.int .i64 ((rd_T77 l0 x3_1).f2.f0)) := (blk_cell BK426.out 2).trans rfl
                    have hcz19_3 : wc.cell? ⟨gb426, 3, none⟩ = some (.string ((rd_T77 l0 x3_1).f2.f1)) := (blk_cell BK426.out 3).trans rfl
                    have hcz19_4 : wc.cell? ⟨gb426, 4, none⟩ = some (.int .i64 ((rd_T77 l0 x3_1).f2.f2)) := (blk_cell BK426.out 4).trans rfl
                    have hcz19_5 : wc.cell? ⟨gb426, 5, none⟩ = some (.slice A425_5 ((rd_T77 l0 x3_1).f2.f3).length c425_5) := (blk_cell BK426.out 5).trans rfl
                    have hcz19_6 : wc.cell? ⟨gb426, 6, none⟩ = some (.slice A425_6 ((rd_T77 l0 x3_1).f2.f4).length c425_6) := (blk_cell BK426.out 6).trans rfl
                    have hfz19_0 := blk_frozen BK426.out 0
                    have hfz19_1 := blk_frozen BK426.out 1
                    have hfz19_2 := blk_frozen BK426.out 2
                    have hfz19_3 := blk_frozen BK426.out 3
                    have hfz19_4 := blk_frozen BK426.out 4
                    have hfz19_5 := blk_frozen BK426.out 5
                    have hfz19_6 := blk_frozen BK426.out 6
                    go_wp2_with (first | (go_at_call 63; (with_reducible refine (spec_l5Zero.calls ((rd_T77 l0 x3_1).f2.f0) ((rd_T77 l0 x3_1).f2.f1) ((rd_T77 l0 x3_1).f2.f2) _ _ ((rd_T77 l0 x3_1).f2.f3) _ _ ((rd_T77 l0 x3_1).f2.f4) false _ ?side1 ?side2 ?side3 ?side4 A14.out).mono ?_); (case side1 => repeat (first | exact (Kd.C_below HR425_5.out HB.out) | (with_reducible refine Kd.C_alloc ?_ _) | (with_reducible refine Kd.C_drewN ?_ _) | (with_reducible refine Kd.C_drew ?_))); (case side2 => exact HC425_5.out); (case side3 => repeat (first | exact (Kd.C_below HR425_6.out HB.out) | (with_reducible refine Kd.C_alloc ?_ _) | (with_reducible refine Kd.C_drewN ?_ _) | (with_reducible refine Kd.C_drew ?_))); (case side4 => exact HC425_6.out); rintro e w20 ⟨rfl, hb⟩; have n0_ := Aside0.mk (blk_below (g := gb426) (o := .cells #[.int .i64 ((rd_T77 l0 x3_1).f0), .slice A425_1 ((rd_T77 l0 x3_1).f1).length c425_1, .int .i64 ((rd_T77 l0 x3_1).f2.f0), .string ((rd_T77 l0 x3_1).f2.f1), .int .i64 ((rd_T77 l0 x3_1).f2.f2), .slice A425_5 ((rd_T77 l0 x3_1).f2.f3).length c425_5, .slice A425_6 ((rd_T77 l0 x3_1).f2.f4).length c425_6] 77 (0, 0)) (by (with_reducible repeat (first | refine blk_drewN ?_ _ | refine blk_drew ?_ | refine blk_alloc ?_ _)); exact BK426.out) hb); have n1_ := Aside0.mk (below_step (by repeat (first | (with_reducible first | exact HB.out | apply below_alloc | apply pw_below_drewN | apply below_drew1 | refine below_set ?_ GE426.out) | exact HB.out)) hb); clear BK426; clear HB; have BK426 := n0_; have HB := n1_; clear n0_ n1_; (try clear hb); (try clear hb2); (try clear hk); (try clear hi)))
                    go_ret
                    exact ⟨by first | rfl | (simp [errW_none, errW_some] <;> rfl) | (simp [*, errW_none, errW_some] <;> rfl), by repeat (first | (with_reducible first | exact HB.out | apply below_alloc | apply pw_below_drewN | apply below_drew1 | refine below_set ?_ GE426.out) | exact HB.out)⟩
                · rw [if_neg c13] at H
                  have c13b0 : (((rd_T77 l0 x3_1).f0) == 2) = false := beq_eq_false_iff_ne.mpr c13
                  have c13b1 : (((rd_T77 l0 x3_1).f0) != 2) = true := bne_iff_ne.mpr c13
                  replace H := Option.bind_eq_some_iff.mp H
                  obtain ⟨t430, A210, H⟩ := H
                  replace H : (if t430 = true then (spec_PatchOk.l0 kj3 l0 (wrap64 (x3_1 + 1))) else (some false)) = some r := H
                  have A21 := Aside0.mk A210
                  clear A210
                  by_cases c22 : t430 = true
                  · subst c22
                    have H1 : (spec_PatchOk.l0 kj3 l0 (wrap64 (x3_1 + 1))) = some r := by rw [if_pos rfl] at H; exact H
                    clear H
                    have H := H1
                    clear H1
                    have H' := Aside0.mk H
                    clear H
                    have hcz23_0 : wc.cell? ⟨gb426, 0, none⟩ = some (.int .i64 ((rd_T77 l0 x3_1).f0)) := (blk_cell BK426.out 0).trans rfl
                    have hcz23_1 : wc.cell? ⟨gb426, 1, none⟩ = some (.slice A425_1 ((rd_T77 l0 x3_1).f1).length c425_1) := (blk_cell BK426.out 1).trans rfl
                    have hcz23_2 : wc.cell? ⟨gb426, 2, none⟩ = some (.int .i64 ((rd_T77 l0 x3_1).f2.f0)) := (blk_cell BK426.out 2).trans rfl
                    have hcz23_3 : wc.cell? ⟨gb426, 3, none⟩ = some (.string ((rd_T77 l0 x3_1).f2.f1)) := (blk_cell BK426.out 3).trans rfl
                    have hcz23_4 : wc.cell? ⟨gb426, 4, none⟩ = some (.int .i64 ((rd_T77 l0 x3_1).f2.f2)) := (blk_cell BK426.out 4).trans rfl
                    have hcz23_5 : wc.cell? ⟨gb426, 5, none⟩ = some (.slice A425_5 ((rd_T77 l0 x3_1).f2.f3).length c425_5) := (blk_cell BK426.out 5).trans rfl
                    have hcz23_6 : wc.cell? ⟨gb426, 6, none⟩ = some (.slice A425_6 ((rd_T77 l0 x3_1).f2.f4).length c425_6) := (blk_cell BK426.out 6).trans rfl
                    have hfz23_0 := blk_frozen BK426.out 0
                    have hfz23_1 := blk_frozen BK426.out 1
                    have hfz23_2 := blk_frozen BK426.out 2
                    have hfz23_3 := blk_frozen BK426.out 3
                    have hfz23_4 := blk_frozen BK426.out 4
                    have hfz23_5 := blk_frozen BK426.out 5
                    have hfz23_6 := blk_frozen BK426.out 6
                    go_wp2_with (first | (go_at_call 17; (with_reducible refine (spec_ValueOk.calls kj3 ((rd_T77 l0 x3_1).f2.f0) ((rd_T77 l0 x3_1).f2.f1) ((rd_T77 l0 x3_1).f2.f2) _ _ ((rd_T77 l0 x3_1).f2.f3) _ _ ((rd_T77 l0 x3_1).f2.f4) true _ ?side1 ?side2 ?side3 ?side4 A21.out).mono ?_); (case side1 => repeat (first | exact (Kd.C_below HR425_5.out HB.out) | (with_reducible refine Kd.C_alloc ?_ _) | (with_reducible refine Kd.C_drewN ?_ _) | (with_reducible refine Kd.C_drew ?_))); (case side2 => exact HC425_5.out); (case side3 => repeat (first | exact (Kd.C_below HR425_6.out HB.out) | (with_reducible refine Kd.C_alloc ?_ _) | (with_reducible refine Kd.C_drewN ?_ _) | (with_reducible refine Kd.C_drew ?_))); (case side4 => exact HC425_6.out); rintro e w24 ⟨rfl, hb⟩; have n0_ := Aside0.mk (blk_below (g := gb426) (o := .cells #[.int .i64 ((rd_T77 l0 x3_1).f0), .slice A425_1 ((rd_T77 l0 x3_1).f1).length c425_1, .int .i64 ((rd_T77 l0 x3_1).f2.f0), .string ((rd_T77 l0 x3_1).f2.f1), .int .i64 ((rd_T77 l0 x3_1).f2.f2), .slice A425_5 ((rd_T77 l0 x3_1).f2.f3).length c425_5, .slice A425_6 ((rd_T77 l0 x3_1).f2.f4).length c425_6] 77 (0, 0)) (by (with_reducible repeat (first | refine blk_drewN ?_ _ | refine blk_drew ?_ | refine blk_alloc ?_ _)); exact BK426.out) hb); have n1_ := Aside0.mk (below_step (by repeat (first | (with_reducible first | exact HB.out | apply below_alloc | apply pw_below_drewN | apply below_drew1 | refine below_set ?_ GE426.out) | exact HB.out)) hb); clear BK426; clear HB; have BK426 := n0_; have HB := n1_; clear n0_ n1_; (try clear hb); (try clear hb2); (try clear hk); (try clear hi)))
                    go_roundg kj3
                    case measure => have := HK1.out; have := HJ3.out; omega
                    case rel => exact ⟨(wrap64 (x3_1 + 1)), (by first | rfl | (simp; done) | (simp [*]; done)), H', ⟨by have := HK1.out; have := HJ3.out; omega⟩, ⟨by repeat (first | (with_reducible first | exact HB.out | apply below_alloc | apply pw_below_drewN | apply below_drew1 | refine below_set ?_ GE426.out) | exact HB.out)⟩⟩
                  · replace c22 := Bool.eq_false_iff.mpr c22
                    subst c22
                    have H1 : (some false) = some r := by rw [if_neg (show ¬ (false = true) by decide)] at H; exact H
                    clear H
                    have H := H1
                    clear H1
                    obtain rfl := Option.some.inj H
                    have hcz25_0 : wc.cell? ⟨gb426, 0, none⟩ = some (.int .i64 ((rd_T77 l0 x3_1).f0)) := (blk_cell BK426.out 0).trans rfl
                    have hcz25_1 : wc.cell? ⟨gb426, 1, none⟩ = some (.slice A425_1 ((rd_T77 l0 x3_1).f1).length c425_1) := (blk_cell BK426.out 1).trans rfl
                    have hcz25_2 : wc.cell? ⟨gb426, 2, none⟩ = some (.int .i64 ((rd_T77 l0 x3_1).f2.f0)) := (blk_cell BK426.out 2).trans rfl
                    have hcz25_3 : wc.cell? ⟨gb426, 3, none⟩ = some (.string ((rd_T77 l0 x3_1).f2.f1)) := (blk_cell BK426.out 3).trans rfl
                    have hcz25_4 : wc.cell? ⟨gb426, 4, none⟩ = some (.int .i64 ((rd_T77 l0 x3_1).f2.f2)) := (blk_cell BK426.out 4).trans rfl
                    have hcz25_5 : wc.cell? ⟨gb426, 5, none⟩ = some (.slice A425_5 ((rd_T77 l0 x3_1).f2.f3).length c425_5) := (blk_cell BK426.out 5).trans rfl
                    have hcz25_6 : wc.cell? ⟨gb426, 6, none⟩ = some (.slice A425_6 ((rd_T77 l0 x3_1).f2.f4).length c425_6) := (blk_cell BK426.out 6).trans rfl
                    have hfz25_0 := blk_frozen BK426.out 0
                    have hfz25_1 := blk_frozen BK426.out 1
                    have hfz25_2 := blk_frozen BK426.out 2
                    have hfz25_3 := blk_frozen BK426.out 3
                    have hfz25_4 := blk_frozen BK426.out 4
                    have hfz25_5 := blk_frozen BK426.out 5
                    have hfz25_6 := blk_frozen BK426.out 6
                    go_wp2_with (first | (go_at_call 17; (with_reducible refine (spec_ValueOk.calls kj3 ((rd_T77 l0 x3_1).f2.f0) ((rd_T77 l0 x3_1).f2.f1) ((rd_T77 l0 x3_1).f2.f2) _ _ ((rd_T77 l0 x3_1).f2.f3) _ _ ((rd_T77 l0 x3_1).f2.f4) false _ ?side1 ?side2 ?side3 ?side4 A21.out).mono ?_); (case side1 => repeat (first | exact (Kd.C_below HR425_5.out HB.out) | (with_reducible refine Kd.C_alloc ?_ _) | (with_reducible refine Kd.C_drewN ?_ _) | (with_reducible refine Kd.C_drew ?_))); (case side2 => exact HC425_5.out); (case side3 => repeat (first | exact (Kd.C_below HR425_6.out HB.out) | (with_reducible refine Kd.C_alloc ?_ _) | (with_reducible refine Kd.C_drewN ?_ _) | (with_reducible refine Kd.C_drew ?_))); (case side4 => exact HC425_6.out); rintro e w26 ⟨rfl, hb⟩; have n0_ := Aside0.mk (blk_below (g := gb426) (o := .cells #[.int .i64 ((rd_T77 l0 x3_1).f0), .slice A425_1 ((rd_T77 l0 x3_1).f1).length c425_1, .int .i64 ((rd_T77 l0 x3_1).f2.f0), .string ((rd_T77 l0 x3_1).f2.f1), .int .i64 ((rd_T77 l0 x3_1).f2.f2), .slice A425_5 ((rd_T77 l0 x3_1).f2.f3).length c425_5, .slice A425_6 ((rd_T77 l0 x3_1).f2.f4).length c425_6] 77 (0, 0)) (by (with_reducible repeat (first | refine blk_drewN ?_ _ | refine blk_drew ?_ | refine blk_alloc ?_ _)); exact BK426.out) hb); have n1_ := Aside0.mk (below_step (by repeat (first | (with_reducible first | exact HB.out | apply below_alloc | apply pw_below_drewN | apply below_drew1 | refine below_set ?_ GE426.out) | exact HB.out)) hb); clear BK426; clear HB; have BK426 := n0_; have HB := n1_; clear n0_ n1_; (try clear hb); (try clear hb2); (try clear hk); (try clear hi)))
                    go_ret
                    exact ⟨by first | rfl | (simp [errW_none, errW_some] <;> rfl) | (simp [*, errW_none, errW_some] <;> rfl), by repeat (first | (with_reducible first | exact HB.out | apply below_alloc | apply pw_below_drewN | apply below_drew1 | refine below_set ?_ GE426.out) | exact HB.out)⟩
        · rw [if_neg c3] at H
          exact absurd H (by simp)
      · rw [if_neg c2] at H
        have c2b0 : decide (x3_1 < (l0.length : Int)) = false := decide_eq_false c2
        clear c2
        obtain rfl := Option.some.inj H
        go_wp2
        go_ret
        exact ⟨by first | rfl | (simp [errW_none, errW_some] <;> rfl) | (simp [*, errW_none, errW_some] <;> rfl), by repeat (first | (with_reducible first | exact HB.out | apply below_alloc | apply pw_below_drewN | apply below_drew1) | exact HB.out)⟩

end Go.Proofs.Ytchhognpijobcaa.G

/- G96 -/
-- Laid by wip/g/gprint.py out of the translation, by the kit's print program. Lean checks it.
namespace Go.Proofs.Ytchhognpijobcaa.G
open Go.RowKit Go.Proofs.YtchhognpijobcaaW.PrintWords Go.Proofs.YtchhognpijobcaaW.PrintLast Go.Proofs.YtchhognpijobcaaW.PrintMore
attribute [local go_sem] max2_int min2_int max_two min_two max_three min_three max_four min_four   -- for this text's walks alone
set_option linter.unusedVariables false
set_option linter.unusedSimpArgs false

/-! ### slices_IndexFunc_simpl_Op_impl_Op: function 96 -/
set_option maxRecDepth 100000 in
theorem slices_IndexFunc_simpl_Op_impl_Op.calls {α : Type} (d : Kd α) (hd : d.sz = 7) (kf : Nat) (hkf : ∀ (zs : Array Value) (W : World), (callFunc kf zs).run Try.prog W = .ok (.enter kf zs) W) (caps : Array Value) (p : α → Option Bool) (A0 : Option Addr) (c0 : Nat) (l0 : List α) (r : Int) (w : World) (hr0 : Kd.C d w A0 l0.length l0) (hc0 : l0.length ≤ c0)
    (hf : ∀ (x : α) (cs : List Value) (b : Bool) (W : World), x ∈ l0 → p x = some b → d.K W x cs → Below w.heap.size w W → Calls Try.prog kf (#[(.agg (cs).toArray)] ++ caps) W fun e w' => e = .returned (.bool b) ∧ Below W.heap.size W w') (h : idxO p l0 0 = some r) :
    Calls Try.prog 96 #[.slice A0 l0.length c0, .func (.func kf) #[] caps] w fun e w' => e = .returned (.int .i64 r) ∧ Below w.heap.size w w' := by
  have hm : l0.length ≤ 9223372036854775807 := hr0.2.1
  have HR := Lib.hid hr0
  have HF := Lib.hid hf
  have HH := Lib.hid h
  have HD := Lib.hid hd
  clear hr0 hf h hd
  go_enter Try.func96, Try.ntmps96
  go_wp2
  go_loopw [5, 8] (fun _ i wr => ∃ k : Nat, k ≤ l0.length ∧ i = .int .i64 k ∧ Hid (idxO p (l0.drop k) k = some r) ∧ Hid (Below w.heap.size w wr)) (fun _ i _ => l0.length - (intOf i).toNat)
  case atStart => exact ⟨0, by omega, rfl, HH, Below.refl _ _⟩
  case round =>
    obtain ⟨k, hk, rfl, HE, HB⟩ := hrel
    by_cases hlt : k < l0.length
    · obtain ⟨b, hp, hb1, hb2⟩ := idxO_step hlt HE.out
      have HP := Lib.hid hp
      have B1 := Lib.hid hb1
      have B2 := Lib.hid hb2
      clear hp hb1 hb2
      obtain ⟨ad, cs, rfl, hcs, hK, hcell⟩ := Kd.C_get HR.out l0[k] (k : Int) (by omega) (by omega)
      rw [HD.out] at hcs hcell
      obtain ⟨y0, y1, y2, y3, y4, y5, y6, rfl⟩ : ∃ y0 y1 y2 y3 y4 y5 y6, cs = [y0, y1, y2, y3, y4, y5, y6] := by match cs, hcs with | [y0, y1, y2, y3, y4, y5, y6], _ => exact ⟨y0, y1, y2, y3, y4, y5, y6, rfl⟩
      clear hcs
      simp only [Int.toNat_natCast, getD_at hlt] at hK hcell
      have HK := Lib.hid (d.K_below HB.out hK)
      clear hK
      have d0 := pw_cell_below HB.out (hcell 0 y0 rfl)
      have d1 := pw_cell_below HB.out (hcell 1 y1 rfl)
      have d2 := pw_cell_below HB.out (hcell 2 y2 rfl)
      have d3 := pw_cell_below HB.out (hcell 3 y3 rfl)
      have d4 := pw_cell_below HB.out (hcell 4 y4 rfl)
      have d5 := pw_cell_below HB.out (hcell 5 y5 rfl)
      have d6 := pw_cell_below HB.out (hcell 6 y6 rfl)
      clear hcell
      simp only [Nat.add_zero, Nat.mul_one] at d0
      rw [add_field _ _ 1 (by omega)] at d1
      rw [add_field _ _ 2 (by omega)] at d2
      rw [add_field _ _ 3 (by omega)] at d3
      rw [add_field _ _ 4 (by omega)] at d4
      rw [add_field _ _ 5 (by omega)] at d5
      rw [add_field _ _ 6 (by omega)] at d6
      cases b
      · have B3 := Lib.hid (B2.out rfl)
        clear B1 B2
        go_wp2_with fail
        refine (HF.out l0[k] _ _ _ (List.getElem_mem hlt) HP.out HK.out HB.out).mono ?_
        rintro e w' ⟨rfl, hbx⟩
        have HB2 := hid_below HB hbx
        clear hbx
        go_wp2
        go_roundw
        case rel => exact ⟨k + 1, by omega, by go_num, B3, HB2⟩
        case measure => simp [intOf]; omega
      · have B3 := Lib.hid (B1.out rfl)
        clear B1 B2
        go_wp2_with fail
        refine (HF.out l0[k] _ _ _ (List.getElem_mem hlt) HP.out HK.out HB.out).mono ?_
        rintro e w' ⟨rfl, hbx⟩
        have HB2 := hid_below HB hbx
        clear hbx
        go_wp2
        go_ret
        obtain rfl := B3.out
        exact ⟨rfl, HB2.out⟩
    · obtain rfl : k = l0.length := by omega
      go_wp2
      go_ret
      exact ⟨by rw [idxO_end HE.out]; rfl, HB.out⟩

end Go.Proofs.Ytchhognpijobcaa.G

/- G65 -/
-- Laid by wip/g/gprint.py out of the translation, by the kit's print program. Lean checks it.
namespace Go.Proofs.Ytchhognpijobcaa.G
open Go.RowKit Go.Proofs.YtchhognpijobcaaW.PrintWords Go.Proofs.YtchhognpijobcaaW.PrintLast Go.Proofs.YtchhognpijobcaaW.PrintMore
attribute [local go_sem] max2_int min2_int max_two min_two max_three min_three max_four min_four   -- for this text's walks alone
set_option linter.unusedVariables false
set_option linter.unusedSimpArgs false

/-! ### slices_ContainsFunc_simpl_Op_impl_Op: function 65 -/
theorem slices_ContainsFunc_simpl_Op_impl_Op.calls {α : Type} (d : Kd α) (hd : d.sz = 7) (kf : Nat) (hkf : ∀ (zs : Array Value) (W : World), (callFunc kf zs).run Try.prog W = .ok (.enter kf zs) W) (caps : Array Value) (p : α → Option Bool) (A0 : Option Addr) (c0 : Nat) (l0 : List α) (r : Int) (w : World) (hr0 : Kd.C d w A0 l0.length l0) (hc0 : l0.length ≤ c0)
    (hf : ∀ (x : α) (cs : List Value) (b : Bool) (W : World), x ∈ l0 → p x = some b → d.K W x cs → Below w.heap.size w W → Calls Try.prog kf (#[(.agg (cs).toArray)] ++ caps) W fun e w' => e = .returned (.bool b) ∧ Below W.heap.size W w') (h : idxO p l0 0 = some r) :
    Calls Try.prog 65 #[.slice A0 l0.length c0, .func (.func kf) #[] caps] w fun e w' => e = .returned (.bool (decide (0 ≤ r))) ∧ Below w.heap.size w w' := by
  have HR := Lib.hid hr0
  have HF := Lib.hid hf
  have HH := Lib.hid h
  have HD := Lib.hid hd
  clear hr0 hf h hd
  go_enter Try.func65, Try.ntmps65
  go_wp2_with fail
  refine (slices_IndexFunc_simpl_Op_impl_Op.calls d HD.out kf hkf caps p A0 c0 l0 r _ HR.out hc0 HF.out HH.out).mono ?_
  rintro e w' ⟨rfl, hb⟩
  have HB := Lib.hid hb
  clear hb
  go_wp2
  go_ret
  exact ⟨rfl, HB.out⟩

end Go.Proofs.Ytchhognpijobcaa.G
