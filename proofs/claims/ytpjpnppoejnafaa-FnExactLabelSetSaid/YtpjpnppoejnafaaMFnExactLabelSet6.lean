import Derived.Test.YtpjpnppoejnafaaMFnExactLabelSet1
import Derived.Test.YtpjpnppoejnafaaMFnExactLabelSet2
import Derived.Test.YtpjpnppoejnafaaMFnExactLabelSet4
import Derived.Test.YtpjpnppoejnafaaMFnExactLabelSet5
/- G45 -/
-- Laid by wip/g/gprint.py out of the translation, by the kit's print program. Lean checks it.
namespace Go.Proofs.Ytpjpnppoejnafaa.G
open Go.RowKit Go.Proofs.YtpjpnppoejnafaaW.PrintWords Go.Proofs.YtpjpnppoejnafaaW.PrintLast Go.Proofs.YtpjpnppoejnafaaW.PrintMore
attribute [local go_sem] max2_int min2_int max_two min_two max_three min_three max_four min_four   -- for this text's walks alone
set_option linter.unusedVariables false
set_option linter.unusedSimpArgs false

/-! ### spec_LabelGet: function 45 -/
def spec_LabelGet.l0 : Nat → List (S56) → ByteArray → Int → Option (ByteArray × Bool)
  | 0, _, _, _ => none
  | k + 1, x0, x1, x6 => if x6 < (x0.length : Int) then (if 0 ≤ x6 then (if ((rd_T56 x0 x6).f0).toList = x1.toList then (some ((rd_T56 x0 x6).f1, true)) else (spec_LabelGet.l0 k x0 x1 (wrap64 (x6 + 1)))) else (none)) else (some ((⟨#[]⟩ : ByteArray), false))
def spec_LabelGet.f (k : Nat) (l0 : List (S56)) (a1 : ByteArray) : Option (ByteArray × Bool) := spec_LabelGet.l0 k l0 a1 0
theorem spec_LabelGet.mono_l : ∀ k, (∀ y0 y1 y2, LeO (spec_LabelGet.l0 k y0 y1 y2) (spec_LabelGet.l0 (k + 1) y0 y1 y2))
  | 0 => fun _ _ _ r h => by simp [spec_LabelGet.l0] at h
  | k + 1 => by
    have ih0 := spec_LabelGet.mono_l k
    · intro y0 y1 y2
      unfold spec_LabelGet.l0
      repeat' first
      | (with_reducible exact ih0 _ _ _)
      | (with_reducible exact LeO.refl _)
      | (with_reducible exact LeO.none _)
      | (with_reducible refine LeO.ite ?_ ?_)
      | (with_reducible refine LeO.bind ?_ (fun _ => ?_))
      | exact ih0 _ _ _
      | exact LeO.none _
      | refine LeO.ite ?_ ?_
      | refine LeO.bind ?_ (fun _ => ?_)
theorem spec_LabelGet.mono : ∀ a0 a1 k, LeO (spec_LabelGet.f k a0 a1) (spec_LabelGet.f (k + 1) a0 a1) := by
  intro a0 a1 k
  have ih0 := spec_LabelGet.mono_l k
  unfold spec_LabelGet.f
  repeat' first
      | (with_reducible exact ih0 _ _ _)
      | (with_reducible exact LeO.refl _)
      | (with_reducible exact LeO.none _)
      | (with_reducible refine LeO.ite ?_ ?_)
      | (with_reducible refine LeO.bind ?_ (fun _ => ?_))
      | exact ih0 _ _ _
      | exact LeO.none _
      | refine LeO.ite ?_ ?_
      | refine LeO.bind ?_ (fun _ => ?_)
set_option maxHeartbeats 8000000 in
set_option maxRecDepth 100000 in
theorem spec_LabelGet.calls (k : Nat) (A0 : Option Addr) (c0 : Nat) (l0 : List (S56)) (a1 : ByteArray) (r1 : ByteArray) (r2 : Bool) (w : World) (hr0 : Kd.C k56 w A0 l0.length l0) (hc0 : l0.length ≤ c0) (h : spec_LabelGet.f k l0 a1 = some (r1, r2)) :
    Calls Try.prog 45 #[.slice A0 l0.length c0, .string a1] w fun e w' => e = .returned (.tuple #[.string r1, .bool r2]) ∧ Drawn0 w w' := by
  have HR0 := Aside0.mk hr0
  have HC0 := Aside0.mk hc0
  clear hr0 hc0
  have H : (spec_LabelGet.l0 k l0 a1 0) = some (r1, r2) := h
  clear h
  have H' := Aside0.mk H
  clear H
  go_enter Try.func45, Try.ntmps45
  go_wp2
  go_loopg [6] k (fun kq v6 w' => ∃ (x6_1 : Int), v6 = .int .i64 x6_1 ∧ Aside0 (spec_LabelGet.l0 kq l0 a1 x6_1 = some (r1, r2)) ∧ Aside0 (kq ≤ k) ∧ Drawn0 w w')
  case atStart => exact ⟨(0), (by first | rfl | (simp; done) | (simp [*]; done)), H', ⟨Nat.le_refl _⟩, by repeat (first | exact Drawn0.refl _ | apply Drawn0.step)⟩
  case round =>
    clear H'
    try clear p2
    obtain ⟨x6_1, rfl, HA, HK1, ⟨m1, rfl⟩⟩ := hrel
    cases gk with
    | zero => exact absurd HA.out (by simp [spec_LabelGet.l0])
    | succ k1 =>
      have H := HA.out
      clear HA
      simp only [spec_LabelGet.l0] at H
      by_cases c3 : x6_1 < (l0.length : Int)
      · rw [if_pos c3] at H
        have c3b0 : decide (x6_1 < (l0.length : Int)) = true := decide_eq_true c3
        clear c3
        by_cases c4 : 0 ≤ x6_1
        · rw [if_pos c4] at H
          have c4b0 : decide (0 ≤ x6_1) = true := decide_eq_true c4
          clear c4
          by_cases c5 : ((rd_T56 l0 x6_1).f0).toList = a1.toList
          · rw [if_pos c5] at H
            have c5b0 : (((rd_T56 l0 x6_1).f0).toList == a1.toList) = true := beq_iff_eq.mpr c5
            have c5b1 : (((rd_T56 l0 x6_1).f0).toList != a1.toList) = false := bne_eq_false_iff_eq.mpr c5
            clear c5
            simp only [Option.some.injEq, Prod.mk.injEq] at H
            obtain ⟨rfl, rfl⟩ := H
            have p213 : 0 ≤ (x6_1 : Int) := of_decide_eq_true (by first | (with_reducible assumption) | assumption)
            have q213 : x6_1 < (l0.length : Int) := of_decide_eq_true (by first | (with_reducible assumption) | assumption)
            obtain ⟨ad213, e213, hx213_0, hx213_1⟩ := at_T56 HR0.out x6_1 p213 q213
            cases e213
            replace p213 := eq_true p213
            replace q213 := eq_true q213
            have p214 : 0 ≤ (x6_1 : Int) := of_decide_eq_true (by first | (with_reducible assumption) | assumption)
            have q214 : x6_1 < (l0.length : Int) := of_decide_eq_true (by first | (with_reducible assumption) | assumption)
            obtain ⟨ad214, e214, hx214_0, hx214_1⟩ := at_T56 HR0.out x6_1 p214 q214
            obtain rfl : ad213 = ad214 := (by injection e214)
            replace p214 := eq_true p214
            replace q214 := eq_true q214
            go_wp2
            go_ret2
            exact ⟨by first | rfl | (simp; done) | (simp [*]; done), by repeat (first | exact Drawn0.refl _ | apply Drawn0.step)⟩
          · rw [if_neg c5] at H
            have c5b0 : (((rd_T56 l0 x6_1).f0).toList == a1.toList) = false := beq_eq_false_iff_ne.mpr c5
            have c5b1 : (((rd_T56 l0 x6_1).f0).toList != a1.toList) = true := bne_iff_ne.mpr c5
            have H' := Aside0.mk H
            clear H
            have p213 : 0 ≤ (x6_1 : Int) := of_decide_eq_true (by first | (with_reducible assumption) | assumption)
            have q213 : x6_1 < (l0.length : Int) := of_decide_eq_true (by first | (with_reducible assumption) | assumption)
            obtain ⟨ad213, e213, hx213_0, hx213_1⟩ := at_T56 HR0.out x6_1 p213 q213
            cases e213
            replace p213 := eq_true p213
            replace q213 := eq_true q213
            go_wp2
            go_roundg k1
            case measure => have := HK1.out; omega
            case rel => exact ⟨(wrap64 (x6_1 + 1)), (by first | rfl | (simp; done) | (simp [*]; done)), H', ⟨by have := HK1.out; omega⟩, by repeat (first | exact Drawn0.refl _ | apply Drawn0.step)⟩
        · rw [if_neg c4] at H
          exact absurd H (by simp)
      · rw [if_neg c3] at H
        have c3b0 : decide (x6_1 < (l0.length : Int)) = false := decide_eq_false c3
        clear c3
        simp only [Option.some.injEq, Prod.mk.injEq] at H
        obtain ⟨rfl, rfl⟩ := H
        go_wp2
        go_ret2
        exact ⟨by first | rfl | (simp; done) | (simp [*]; done), by repeat (first | exact Drawn0.refl _ | apply Drawn0.step)⟩

end Go.Proofs.Ytpjpnppoejnafaa.G

/- G93 -/
-- Laid by wip/g/gprint.py out of the translation, by the kit's print program. Lean checks it.
namespace Go.Proofs.Ytpjpnppoejnafaa.G
open Go.RowKit Go.Proofs.YtpjpnppoejnafaaW.PrintWords Go.Proofs.YtpjpnppoejnafaaW.PrintLast Go.Proofs.YtpjpnppoejnafaaW.PrintMore
attribute [local go_sem] max2_int min2_int max_two min_two max_three min_three max_four min_four   -- for this text's walks alone
set_option linter.unusedVariables false
set_option linter.unusedSimpArgs false

/-! ### impl_LabelGet: function 93 -/
def impl_LabelGet.l0 : Nat → ByteArray → List (S56) → Int → Int → Option (ByteArray × Bool)
  | 0, _, _, _, _ => none
  | k + 1, x1, x8, x9, x10 => if x10 < x9 then (if 0 ≤ x10 then (if x10 < (x8.length : Int) then (if ((rd_T56 x8 x10).f0).toList = x1.toList then (some ((rd_T56 x8 x10).f1, true)) else (impl_LabelGet.l0 k x1 x8 x9 (wrap64 (x10 + 1)))) else (none)) else (none)) else (some ((⟨#[]⟩ : ByteArray), false))
def impl_LabelGet.f (k : Nat) (l0 : List (S56)) (a1 : ByteArray) : Option (ByteArray × Bool) := impl_LabelGet.l0 k a1 l0 (l0.length : Int) 0
theorem impl_LabelGet.mono_l : ∀ k, (∀ y0 y1 y2 y3, LeO (impl_LabelGet.l0 k y0 y1 y2 y3) (impl_LabelGet.l0 (k + 1) y0 y1 y2 y3))
  | 0 => fun _ _ _ _ r h => by simp [impl_LabelGet.l0] at h
  | k + 1 => by
    have ih0 := impl_LabelGet.mono_l k
    · intro y0 y1 y2 y3
      unfold impl_LabelGet.l0
      repeat' first
      | (with_reducible exact ih0 _ _ _ _)
      | (with_reducible exact LeO.refl _)
      | (with_reducible exact LeO.none _)
      | (with_reducible refine LeO.ite ?_ ?_)
      | (with_reducible refine LeO.bind ?_ (fun _ => ?_))
      | exact ih0 _ _ _ _
      | exact LeO.none _
      | refine LeO.ite ?_ ?_
      | refine LeO.bind ?_ (fun _ => ?_)
theorem impl_LabelGet.mono : ∀ a0 a1 k, LeO (impl_LabelGet.f k a0 a1) (impl_LabelGet.f (k + 1) a0 a1) := by
  intro a0 a1 k
  have ih0 := impl_LabelGet.mono_l k
  unfold impl_LabelGet.f
  repeat' first
      | (with_reducible exact ih0 _ _ _ _)
      | (with_reducible exact LeO.refl _)
      | (with_reducible exact LeO.none _)
      | (with_reducible refine LeO.ite ?_ ?_)
      | (with_reducible refine LeO.bind ?_ (fun _ => ?_))
      | exact ih0 _ _ _ _
      | exact LeO.none _
      | refine LeO.ite ?_ ?_
      | refine LeO.bind ?_ (fun _ => ?_)
set_option maxHeartbeats 8000000 in
set_option maxRecDepth 100000 in
theorem impl_LabelGet.calls (k : Nat) (A0 : Option Addr) (c0 : Nat) (l0 : List (S56)) (a1 : ByteArray) (r1 : ByteArray) (r2 : Bool) (w : World) (hr0 : Kd.C k56 w A0 l0.length l0) (hc0 : l0.length ≤ c0) (h : impl_LabelGet.f k l0 a1 = some (r1, r2)) :
    Calls Try.prog 93 #[.slice A0 l0.length c0, .string a1] w fun e w' => e = .returned (.tuple #[.string r1, .bool r2]) ∧ Below w.heap.size w w' := by
  have hu56 := Try.underlying56
  have HR0 := Aside0.mk hr0
  have HC0 := Aside0.mk hc0
  clear hr0 hc0
  have HB := Aside0.mk (Below.refl w.heap.size w)
  have H : (impl_LabelGet.l0 k a1 l0 (l0.length : Int) 0) = some (r1, r2) := h
  clear h
  have H' := Aside0.mk H
  clear H
  go_enter Try.func93, Try.ntmps93
  go_wp2
  go_loopg [10] k (fun kq v10 w' => ∃ (x10_1 : Int), v10 = .int .i64 x10_1 ∧ Aside0 (impl_LabelGet.l0 kq a1 l0 (l0.length : Int) x10_1 = some (r1, r2)) ∧ Aside0 (kq ≤ k) ∧ Aside0 (Below w.heap.size w w'))
  case atStart => exact ⟨(0), (by first | rfl | (simp; done) | (simp [*]; done)), H', ⟨Nat.le_refl _⟩, ⟨by repeat (first | (with_reducible first | exact HB.out | apply below_alloc | apply pw_below_drewN | apply below_drew1) | exact HB.out)⟩⟩
  case round =>
    clear H'
    try clear p2
    obtain ⟨x10_1, rfl, HA, HK1, HB⟩ := hrel
    cases gk with
    | zero => exact absurd HA.out (by simp [impl_LabelGet.l0])
    | succ k1 =>
      have H := HA.out
      clear HA
      simp only [impl_LabelGet.l0] at H
      by_cases c3 : x10_1 < (l0.length : Int)
      · rw [if_pos c3] at H
        have c3b0 : decide (x10_1 < (l0.length : Int)) = true := decide_eq_true c3
        clear c3
        by_cases c4 : 0 ≤ x10_1
        · rw [if_pos c4] at H
          have c4b0 : decide (0 ≤ x10_1) = true := decide_eq_true c4
          clear c4
          by_cases c5 : x10_1 < (l0.length : Int)
          · rw [if_pos c5] at H
            have c5b0 : decide (x10_1 < (l0.length : Int)) = true := decide_eq_true c5
            clear c5
            by_cases c6 : ((rd_T56 l0 x10_1).f0).toList = a1.toList
            · rw [if_pos c6] at H
              have c6b0 : (((rd_T56 l0 x10_1).f0).toList == a1.toList) = true := beq_iff_eq.mpr c6
              have c6b1 : (((rd_T56 l0 x10_1).f0).toList != a1.toList) = false := bne_eq_false_iff_eq.mpr c6
              clear c6
              simp only [Option.some.injEq, Prod.mk.injEq] at H
              obtain ⟨rfl, rfl⟩ := H
              have p438 : 0 ≤ (x10_1 : Int) := of_decide_eq_true (by first | (with_reducible assumption) | assumption)
              have q438 : x10_1 < (l0.length : Int) := of_decide_eq_true (by first | (with_reducible assumption) | assumption)
              obtain ⟨ad438, e438, hx438_0, hx438_1⟩ := at_T56 HR0.out x10_1 p438 q438
              cases e438
              replace hx438_0 := (HB.out.cell (World.block_lt_of_cell? w _ hx438_0)).trans hx438_0
              replace hx438_1 := (HB.out.cell (World.block_lt_of_cell? w _ hx438_1)).trans hx438_1
              replace p438 := eq_true p438
              replace q438 := eq_true q438
              go_wp2_with (first | ((with_reducible refine gate_dst (N := 7) rfl ?_); refine box_event ?hg (N := 7) ?hd (cs := #[.string (⟨#[]⟩ : ByteArray), .string (⟨#[]⟩ : ByteArray)]) (t := 56) ?hr ?_; (case hd => rfl); (case hg => rfl); (case hr => first | (go_simp; done) | (go_simp; rfl)); intro gb439 hg w7 hbox hb; have n0_ := Aside0.mk (below_step (by repeat (first | (with_reducible first | exact HB.out | apply below_alloc | apply pw_below_drewN | apply below_drew1) | exact HB.out)) hb); have n1_ := Aside0.mk (hbox); have n2_ := Aside0.mk ((by rw [hg]; exact (below_size (by repeat (first | (with_reducible first | exact HB.out | apply below_alloc | apply pw_below_drewN | apply below_drew1) | exact HB.out))) : w.heap.size ≤ gb439)); have n3_ := Aside0.mk ((by rw [hg]; exact (below_size (by repeat (first | (with_reducible first | exact HB.out | apply below_alloc | apply pw_below_drewN | apply below_drew1) | exact HB.out))) : w.heap.size ≤ gb439)); clear HB; have HB := n0_; have BK439 := n1_; have GW439 := n2_; have GE439 := n3_; clear n0_ n1_ n2_ n3_; clear hb hbox hg; have hcz8_0 : w7.cell? ⟨gb439, 0, none⟩ = some (.string (⟨#[]⟩ : ByteArray)) := (blk_cell BK439.out 0).trans rfl; have hcz8_1 : w7.cell? ⟨gb439, 1, none⟩ = some (.string (⟨#[]⟩ : ByteArray)) := (blk_cell BK439.out 1).trans rfl; have hfz8_0 := blk_frozen BK439.out 0; have hfz8_1 := blk_frozen BK439.out 1))
              go_ret2
              exact ⟨by first | rfl | (simp [errW_none, errW_some] <;> rfl) | (simp [*, errW_none, errW_some] <;> rfl), by repeat (first | (with_reducible first | exact HB.out | apply below_alloc | apply pw_below_drewN | apply below_drew1 | refine below_set ?_ GE439.out) | exact HB.out)⟩
            · rw [if_neg c6] at H
              have c6b0 : (((rd_T56 l0 x10_1).f0).toList == a1.toList) = false := beq_eq_false_iff_ne.mpr c6
              have c6b1 : (((rd_T56 l0 x10_1).f0).toList != a1.toList) = true := bne_iff_ne.mpr c6
              have H' := Aside0.mk H
              clear H
              have p438 : 0 ≤ (x10_1 : Int) := of_decide_eq_true (by first | (with_reducible assumption) | assumption)
              have q438 : x10_1 < (l0.length : Int) := of_decide_eq_true (by first | (with_reducible assumption) | assumption)
              obtain ⟨ad438, e438, hx438_0, hx438_1⟩ := at_T56 HR0.out x10_1 p438 q438
              cases e438
              replace hx438_0 := (HB.out.cell (World.block_lt_of_cell? w _ hx438_0)).trans hx438_0
              replace hx438_1 := (HB.out.cell (World.block_lt_of_cell? w _ hx438_1)).trans hx438_1
              replace p438 := eq_true p438
              replace q438 := eq_true q438
              go_wp2_with (first | ((with_reducible refine gate_dst (N := 7) rfl ?_); refine box_event ?hg (N := 7) ?hd (cs := #[.string (⟨#[]⟩ : ByteArray), .string (⟨#[]⟩ : ByteArray)]) (t := 56) ?hr ?_; (case hd => rfl); (case hg => rfl); (case hr => first | (go_simp; done) | (go_simp; rfl)); intro gb439 hg w9 hbox hb; have n0_ := Aside0.mk (below_step (by repeat (first | (with_reducible first | exact HB.out | apply below_alloc | apply pw_below_drewN | apply below_drew1) | exact HB.out)) hb); have n1_ := Aside0.mk (hbox); have n2_ := Aside0.mk ((by rw [hg]; exact (below_size (by repeat (first | (with_reducible first | exact HB.out | apply below_alloc | apply pw_below_drewN | apply below_drew1) | exact HB.out))) : w.heap.size ≤ gb439)); have n3_ := Aside0.mk ((by rw [hg]; exact (below_size (by repeat (first | (with_reducible first | exact HB.out | apply below_alloc | apply pw_below_drewN | apply below_drew1) | exact HB.out))) : w.heap.size ≤ gb439)); clear HB; have HB := n0_; have BK439 := n1_; have GW439 := n2_; have GE439 := n3_; clear n0_ n1_ n2_ n3_; clear hb hbox hg; have hcz10_0 : w9.cell? ⟨gb439, 0, none⟩ = some (.string (⟨#[]⟩ : ByteArray)) := (blk_cell BK439.out 0).trans rfl; have hcz10_1 : w9.cell? ⟨gb439, 1, none⟩ = some (.string (⟨#[]⟩ : ByteArray)) := (blk_cell BK439.out 1).trans rfl; have hfz10_0 := blk_frozen BK439.out 0; have hfz10_1 := blk_frozen BK439.out 1))
              go_roundg k1
              case measure => have := HK1.out; omega
              case rel => exact ⟨(wrap64 (x10_1 + 1)), (by first | rfl | (simp; done) | (simp [*]; done)), H', ⟨by have := HK1.out; omega⟩, ⟨by repeat (first | (with_reducible first | exact HB.out | apply below_alloc | apply pw_below_drewN | apply below_drew1 | refine below_set ?_ GE439.out) | exact HB.out)⟩⟩
          · rw [if_neg c5] at H
            exact absurd H (by simp)
        · rw [if_neg c4] at H
          exact absurd H (by simp)
      · rw [if_neg c3] at H
        have c3b0 : decide (x10_1 < (l0.length : Int)) = false := decide_eq_false c3
        clear c3
        simp only [Option.some.injEq, Prod.mk.injEq] at H
        obtain ⟨rfl, rfl⟩ := H
        go_wp2
        go_ret2
        exact ⟨by first | rfl | (simp [errW_none, errW_some] <;> rfl) | (simp [*, errW_none, errW_some] <;> rfl), by repeat (first | (with_reducible first | exact HB.out | apply below_alloc | apply pw_below_drewN | apply below_drew1) | exact HB.out)⟩

end Go.Proofs.Ytpjpnppoejnafaa.G

/- PLabOk -/
/-
  Labels that are right; the value of a key.
-/
namespace Go.Proofs.Ytpjpnppoejnafaa.G
open Go.RowKit Go.Proofs.YtpjpnppoejnafaaW.PrintWords Go.Proofs.YtpjpnppoejnafaaW.PrintLast Go.Proofs.YtpjpnppoejnafaaW.PrintMore
set_option linter.unusedVariables false
set_option linter.unusedSimpArgs false
def wfILab (x : ILab) : Prop := x.f0.size ≤ 9223372036854775807 ∧ x.f1.size ≤ 9223372036854775807
def wfILabs (xs : List ILab) : Prop := xs.length ≤ 9223372036854775807 ∧ ∀ x ∈ xs, wfILab x
theorem wfILabs_at {xs : List ILab} (h : wfILabs xs) {i : Nat} (hi : i < xs.length) : wfILab (rd_T56 xs (i : Int)) := by rw [rdIL hi]; exact h.2 _ (List.getElem_mem hi)
theorem wf_cLab {xs : List LLab} (h : xs.length ≤ 9223372036854775807 ∧ ∀ x ∈ xs, wfLab x) : wfILabs (xs.map cLab) :=
  ⟨by simpa using h.1, fun x hx => by obtain ⟨y, hy, rfl⟩ := List.mem_map.1 hx; exact h.2 y hy⟩
def labOkAt (xs : List ILab) (i : Nat) : Bool := nameB (rd_T56 xs i).f0 && (nameB (rd_T56 xs i).f1 && (i == 0 || Op.bytesLess (rd_T56 xs ((i - 1 : Nat) : Int)).f0.toList (rd_T56 xs i).f0.toList))
def labsB (xs : List ILab) : Bool := allN xs.length (labOkAt xs) && decide ((xs.length : Int) ≤ 8)
theorem specLabelsOk_ev (xs : List ILab) (h : wfILabs xs) : Ev (fun k => spec_LabelsOk.f k xs) (labsB xs) := by
  unfold spec_LabelsOk.f labsB
  refine loop_all (g := fun k i => spec_LabelsOk.l0 k xs i) xs.length _ _ ?_ ?_ ?_
  · intro i hi hok r hr
    obtain ⟨w0, w1⟩ := wfILabs_at h hi
    simp only [labOkAt, Bool.and_eq_true] at hok
    refine Ev.step (fun k => by rw [spec_LabelsOk.l0]) ?_
    simp only [wsucc hi h.1]
    refine ev_if_pos (by omega) (ev_if_pos (by omega) (Ev.bind (specNameOk_ev _ w0) (ev_if_pos hok.1 (Ev.bind (specNameOk_ev _ w1) (ev_if_pos hok.2.1 (ev_if (fun c => ?_) (fun c => hr)))))))
    have hl : Op.bytesLess (rd_T56 xs ((i - 1 : Nat) : Int)).f0.toList (rd_T56 xs i).f0.toList = true := by
      have := hok.2.2; simp only [Bool.or_eq_true, beq_iff_eq] at this; rcases this with h0 | h0
      · omega
      · exact h0
    simp only [wpred (by omega : 0 < i) hi h.1]
    exact ev_if_pos (by omega) (ev_if_pos (by omega) (ev_if_pos hl hr))
  · intro i hi hok
    obtain ⟨w0, w1⟩ := wfILabs_at h hi
    refine Ev.step (fun k => by rw [spec_LabelsOk.l0]) ?_
    refine ev_if_pos (by omega) (ev_if_pos (by omega) (Ev.bind (specNameOk_ev _ w0) (ev_if (fun c0 => Ev.bind (specNameOk_ev _ w1) (ev_if (fun c1 => ?_) (fun _ => Ev.now _))) (fun _ => Ev.now _))))
    simp only [labOkAt, c0, c1, Bool.true_and, Bool.or_eq_false_iff, beq_eq_false_iff_ne] at hok
    simp only [wpred (by omega : 0 < i) hi h.1]
    exact ev_if_pos (by omega) (ev_if_pos (by omega) (ev_if_pos (by omega) (ev_if_neg (by rw [hok.2]; simp) (Ev.now _))))
  · exact Ev.step (fun k => by rw [spec_LabelsOk.l0]) (ev_if_neg (by omega) (Ev.now _))
theorem implLabelsOk_ev (xs : List ILab) (h : wfILabs xs) : Ev (fun k => impl_LabelsOk.f k xs) (labsB xs) := by
  unfold impl_LabelsOk.f labsB
  refine loop_all (g := fun k i => impl_LabelsOk.l0 k xs xs xs.length i) xs.length _ _ ?_ ?_ ?_
  · intro i hi hok r hr
    obtain ⟨w0, w1⟩ := wfILabs_at h hi
    simp only [labOkAt, Bool.and_eq_true] at hok
    refine Ev.step (fun k => by rw [impl_LabelsOk.l0]) ?_
    simp only [wsucc hi h.1]
    refine ev_if_pos (by omega) (ev_if_pos (by omega) (ev_if_pos (by omega) (Ev.bind (implNameOk_ev _ w0) (ev_if_pos hok.1 (Ev.bind (implNameOk_ev _ w1) (ev_if_pos hok.2.1 (ev_if (fun c => ?_) (fun c => hr))))))))
    have hl : Op.bytesLess (rd_T56 xs ((i - 1 : Nat) : Int)).f0.toList (rd_T56 xs i).f0.toList = true := by
      have := hok.2.2; simp only [Bool.or_eq_true, beq_iff_eq] at this; rcases this with h0 | h0
      · omega
      · exact h0
    simp only [wpred (by omega : 0 < i) hi h.1]
    exact ev_if_pos (by omega) (ev_if_pos (by omega) (ev_if_pos hl hr))
  · intro i hi hok
    obtain ⟨w0, w1⟩ := wfILabs_at h hi
    refine Ev.step (fun k => by rw [impl_LabelsOk.l0]) ?_
    refine ev_if_pos (by omega) (ev_if_pos (by omega) (ev_if_pos (by omega) (Ev.bind (implNameOk_ev _ w0) (ev_if (fun c0 => Ev.bind (implNameOk_ev _ w1) (ev_if (fun c1 => ?_) (fun _ => Ev.now _))) (fun _ => Ev.now _)))))
    simp only [labOkAt, c0, c1, Bool.true_and, Bool.or_eq_false_iff, beq_eq_false_iff_ne] at hok
    simp only [wpred (by omega : 0 < i) hi h.1]
    exact ev_if_pos (by omega) (ev_if_pos (by omega) (ev_if_pos (by omega) (ev_if_neg (by rw [hok.2]; simp) (Ev.now _))))
  · exact Ev.step (fun k => by rw [impl_LabelsOk.l0]) (ev_if_neg (by omega) (Ev.now _))
def labGet (xs : List ILab) (key : ByteArray) : ByteArray × Bool := ((List.range xs.length).find? (fun i : Nat => decide ((rd_T56 xs i).f0.toList = key.toList))).elim (⟨#[]⟩, false) (fun i : Nat => ((rd_T56 xs i).f1, true))
theorem specLabelGet_ev (xs : List ILab) (key : ByteArray) (h : xs.length ≤ 9223372036854775807) : Ev (fun k => spec_LabelGet.f k xs key) (labGet xs key) := by
  unfold spec_LabelGet.f labGet
  refine loop_find (g := fun k i => spec_LabelGet.l0 k xs key i) xs.length _ _ _ ?_ ?_ ?_
  · intro i hi hok r hr
    refine Ev.step (fun k => by rw [spec_LabelGet.l0]) ?_
    simp only [wsucc hi h]
    exact ev_if_pos (by omega) (ev_if_pos (by omega) (ev_if_neg (of_decide_eq_false hok) hr))
  · intro i hi hok
    exact Ev.step (fun k => by rw [spec_LabelGet.l0]) (ev_if_pos (by omega) (ev_if_pos (by omega) (ev_if_pos (of_decide_eq_true hok) (Ev.now _))))
  · exact Ev.step (fun k => by rw [spec_LabelGet.l0]) (ev_if_neg (by omega) (Ev.now _))
theorem implLabelGet_ev (xs : List ILab) (key : ByteArray) (h : xs.length ≤ 9223372036854775807) : Ev (fun k => impl_LabelGet.f k xs key) (labGet xs key) := by
  unfold impl_LabelGet.f labGet
  refine loop_find (g := fun k i => impl_LabelGet.l0 k key xs xs.length i) xs.length _ _ _ ?_ ?_ ?_
  · intro i hi hok r hr
    refine Ev.step (fun k => by rw [impl_LabelGet.l0]) ?_
    simp only [wsucc hi h]
    exact ev_if_pos (by omega) (ev_if_pos (by omega) (ev_if_pos (by omega) (ev_if_neg (of_decide_eq_false hok) hr)))
  · intro i hi hok
    exact Ev.step (fun k => by rw [impl_LabelGet.l0]) (ev_if_pos (by omega) (ev_if_pos (by omega) (ev_if_pos (by omega) (ev_if_pos (of_decide_eq_true hok) (Ev.now _)))))
  · exact Ev.step (fun k => by rw [impl_LabelGet.l0]) (ev_if_neg (by omega) (Ev.now _))
end Go.Proofs.Ytpjpnppoejnafaa.G

/- G47 -/
-- Laid by wip/g/gprint.py out of the translation, by the kit's print program. Lean checks it.
namespace Go.Proofs.Ytpjpnppoejnafaa.G
open Go.RowKit Go.Proofs.YtpjpnppoejnafaaW.PrintWords Go.Proofs.YtpjpnppoejnafaaW.PrintLast Go.Proofs.YtpjpnppoejnafaaW.PrintMore
attribute [local go_sem] max2_int min2_int max_two min_two max_three min_three max_four min_four   -- for this text's walks alone
set_option linter.unusedVariables false
set_option linter.unusedSimpArgs false

/-! ### spec_l1Labels: function 47 -/
def spec_l1Labels.f (l0 : List (S56)) : Option ((List (S56))) := (some (([] : List (S56)) : List (S56))).bind fun y215 => (if y215.length + l0.length < 4398046511104 then (some (y215 ++ l0)) else (none))
set_option maxHeartbeats 8000000 in
set_option maxRecDepth 100000 in
theorem spec_l1Labels.calls (A0 : Option Addr) (c0 : Nat) (l0 : List (S56)) (r : List (S56)) (w : World) (hr0 : Kd.C k56 w A0 l0.length l0) (hc0 : l0.length ≤ c0) (h : spec_l1Labels.f l0 = some r) :
    Calls Try.prog 47 #[.slice A0 l0.length c0] w fun e w' => ∃ v0_ : Value, e = .returned (v0_) ∧ Kd.R k56 56 w' w.heap.size (fun _ => True) v0_ r ∧ Below w.heap.size w w' := by
  have HR0 := Aside0.mk hr0
  have HC0 := Aside0.mk hc0
  clear hr0 hc0
  have HB := Aside0.mk (Below.refl w.heap.size w)
  have H : ((some (([] : List (S56)) : List (S56))).bind fun y215 => (if y215.length + l0.length < 4398046511104 then (some (y215 ++ l0)) else (none))) = some r := h
  clear h
  obtain ⟨y215, hy215⟩ : ∃ y_ : List (S56), y_ = (([] : List (S56))) := ⟨_, rfl⟩
  replace H : (if y215.length + l0.length < 4398046511104 then (some (y215 ++ l0)) else (none)) = some r := by first | (rw [hy215]; with_reducible exact H) | (have H2_ := (Option.bind_some _ _).symm.trans H; rw [hy215]; with_reducible exact H2_) | (have H2_ := (Option.bind_some _ _).symm.trans H; with_reducible exact H2_) | with_reducible exact H | (rw [hy215]; exact H) | exact H
  have Ny215 := Aside0.mk hy215
  clear hy215
  by_cases c2 : y215.length + l0.length < 4398046511104
  · rw [if_pos c2] at H
    have LMc2 := Aside0.mk c2
    clear c2
    obtain ⟨y218, hy218⟩ : ∃ y_ : List (S56), y_ = (y215 ++ l0) := ⟨_, rfl⟩
    replace H : (some y218) = some r := by first | (rw [hy218]; with_reducible exact H) | (have H2_ := (Option.bind_some _ _).symm.trans H; rw [hy218]; with_reducible exact H2_) | (have H2_ := (Option.bind_some _ _).symm.trans H; with_reducible exact H2_) | with_reducible exact H | (rw [hy218]; exact H) | exact H
    have Ny218 := Aside0.mk hy218
    clear hy218
    obtain rfl := Option.some.inj H
    go_enter Try.func47, Try.ntmps47
    go_wp2_with (first | ((with_reducible refine gate_dst (N := 3) rfl ?_); refine Kd.R_lit k56 _ 56 ?hg (N := 3) ?hd (xs := ([] : List (S56))) (inner := []) (ok := fun _ => True) (okp := fun _ => True) ?hr ?hp (fun _ hk => hk) trivial (Below.refl _ _) (Nat.le_refl _) (by simp) ?_; (case hd => rfl); (case hg => rfl); (case hr => first | (go_simp; done) | (go_simp; rfl)); (case hp => exact (Reps.none _ _)); intro v216 w3 ho4 hb hg_ hnew_; clear hg_ hnew_; (first | rw [← Ny215.out] at ho4 | (simp only [Int.reduceToNat] at ho4; rw [← Ny215.out] at ho4)); have n0_ := Aside0.mk (Kd.R_lower ho4 (below_size (by repeat (first | (with_reducible first | exact HB.out | apply below_alloc | apply pw_below_drewN | apply below_drew1) | exact HB.out)))); have n1_ := Aside0.mk (below_step (by repeat (first | (with_reducible first | exact HB.out | apply below_alloc | apply pw_below_drewN | apply below_drew1) | exact HB.out)) hb); clear HB; have HO217 := n0_; have HB := n1_; clear n0_ n1_; clear hb ho4) | ((with_reducible refine gate_builtin (b := .append) (xs := #[.tmp 3, .tmp 4]) rfl ?_); at_builtin; refine Kd.R_append_rows k56 (w0 := w) w.heap.size rfl (.tmp 3) (.tmp 4) 24 56 (.agg #[(.string ⟨#[]⟩), (.string ⟨#[]⟩)]) 32 rfl Try.underlying24 info56 rfl (by decide) (by omega) v216 y215 l0 _ _ _ (fun _ => True) (fun _ => False) rfl rfl ?aO ?aR (fun _ _ h => h) (fun _ h => h.elim) ?aF ?aB ?aS ?aL ?_; (case aR => repeat (first | exact (Kd.C_below HR0.out HB.out) | (with_reducible refine Kd.C_alloc ?_ _) | (with_reducible refine Kd.C_drewN ?_ _) | (with_reducible refine Kd.C_drew ?_))); (case aB => exact (by repeat (first | (with_reducible first | exact HB.out | apply below_alloc | apply pw_below_drewN | apply below_drew1) | exact HB.out))); (case aF => exact (fun _ _ => trivial)); (case aO => exact (by (with_reducible repeat (first | apply Kd.R_alloc | apply Kd.R_drewN | apply Kd.R_drew)); exact HO217.out)); (case aS => exact (below_size (by repeat (first | (with_reducible first | exact HB.out | apply below_alloc | apply pw_below_drewN | apply below_drew1) | exact HB.out)))); (case aL => have := LMc2.out; omega); intro v219 w5 ho hb hg hat; rw [← Ny218.out] at ho; have n0_ := Aside0.mk (hb); have n1_ := Aside0.mk (ho); clear HB; clear HO217; have HB := n0_; have HO220 := n1_; clear n0_ n1_; clear ho hb hg hat))
    go_ret
    exact ⟨_, by first | rfl | (simp [errW_none, errW_some] <;> rfl) | (simp [*, errW_none, errW_some] <;> rfl), by (with_reducible repeat (first | apply Kd.R_alloc | apply Kd.R_drewN | apply Kd.R_drew)); exact HO220.out, by repeat (first | (with_reducible first | exact HB.out | apply below_alloc | apply pw_below_drewN | apply below_drew1) | exact HB.out)⟩
  · rw [if_neg c2] at H
    exact absurd H (by simp)

end Go.Proofs.Ytpjpnppoejnafaa.G

/- G20 -/
-- Laid by wip/g/gprint.py out of the translation, by the kit's print program. Lean checks it.
namespace Go.Proofs.Ytpjpnppoejnafaa.G
open Go.RowKit Go.Proofs.YtpjpnppoejnafaaW.PrintWords Go.Proofs.YtpjpnppoejnafaaW.PrintLast Go.Proofs.YtpjpnppoejnafaaW.PrintMore
attribute [local go_sem] max2_int min2_int max_two min_two max_three min_three max_four min_four   -- for this text's walks alone
set_option linter.unusedVariables false
set_option linter.unusedSimpArgs false

/-! ### spec_LabelSet: function 20 -/
mutual
def spec_LabelSet.j0 : Nat → List (S56) → ByteArray → ByteArray → Bool → Option ((List (S56)) × Bool)
  | 0, _, _, _, _ => none
  | k + 1, x0, x1, x2, x40 => if x40 = true then ((spec_l1Labels.f x0).bind fun t226 => (some (t226, false))) else (spec_LabelSet.l0 k x0 x1 x2 (([] : List (S56))) false 0)
def spec_LabelSet.l0 : Nat → List (S56) → ByteArray → ByteArray → List (S56) → Bool → Int → Option ((List (S56)) × Bool)
  | 0, _, _, _, _, _, _ => none
  | k + 1, x0, x1, x2, x10, x11, x12 => if x12 < (x0.length : Int) then (if x11 = true then (spec_LabelSet.j2 k x0 x1 x2 x10 x11 x12 false) else (if 0 ≤ x12 then (spec_LabelSet.j2 k x0 x1 x2 x10 x11 x12 (!(Op.bytesLess (((rd_T56 x0 x12).f0).toList) x1.toList))) else (none))) else (if x11 = true then (some (x10, true)) else (if x10.length < 4398046511104 then (some ((x10 ++ [(⟨x1, x2⟩ : S56)]), true)) else (none)))
def spec_LabelSet.j2 : Nat → List (S56) → ByteArray → ByteArray → List (S56) → Bool → Int → Bool → Option ((List (S56)) × Bool)
  | 0, _, _, _, _, _, _, _ => none
  | k + 1, x0, x1, x2, x10, x11, x12, x60 => if x60 = true then (if x10.length < 4398046511104 then ((some (x10 ++ [(⟨x1, x2⟩ : S56)] : List (S56))).bind fun y236 => (if 0 ≤ x12 then (if x12 < (x0.length : Int) then (if ((rd_T56 x0 x12).f0).toList = x1.toList then (spec_LabelSet.l0 k x0 x1 x2 y236 true (wrap64 (x12 + 1))) else (if y236.length < 4398046511104 then (spec_LabelSet.l0 k x0 x1 x2 (y236 ++ [(⟨(rd_T56 x0 x12).f0, (rd_T56 x0 x12).f1⟩ : S56)]) true (wrap64 (x12 + 1))) else (none))) else (none)) else (none))) else (none)) else (if 0 ≤ x12 then (if x12 < (x0.length : Int) then (if ((rd_T56 x0 x12).f0).toList = x1.toList then (spec_LabelSet.l0 k x0 x1 x2 x10 x11 (wrap64 (x12 + 1))) else (if x10.length < 4398046511104 then (spec_LabelSet.l0 k x0 x1 x2 (x10 ++ [(⟨(rd_T56 x0 x12).f0, (rd_T56 x0 x12).f1⟩ : S56)]) x11 (wrap64 (x12 + 1))) else (none))) else (none)) else (none))
end
def spec_LabelSet.f (k : Nat) (l0 : List (S56)) (a1 : ByteArray) (a2 : ByteArray) : Option ((List (S56)) × Bool) := (spec_LabelGet.f k l0 a1).bind fun bt221 => ((spec_LabelsOk.f k l0).bind fun t223 => (if t223 = true then ((spec_NameOk.f k a1).bind fun t224 => (if t224 = true then ((spec_NameOk.f k a2).bind fun t225 => (if t225 = true then (if bt221.2 = true then (spec_LabelSet.j0 k l0 a1 a2 false) else (spec_LabelSet.j0 k l0 a1 a2 ((l0.length : Int) == 8))) else (spec_LabelSet.j0 k l0 a1 a2 true))) else (spec_LabelSet.j0 k l0 a1 a2 true))) else (spec_LabelSet.j0 k l0 a1 a2 true)))
theorem spec_LabelSet.mono_l : ∀ k, (∀ y0 y1 y2 y3, LeO (spec_LabelSet.j0 k y0 y1 y2 y3) (spec_LabelSet.j0 (k + 1) y0 y1 y2 y3)) ∧ (∀ y0 y1 y2 y3 y4 y5, LeO (spec_LabelSet.l0 k y0 y1 y2 y3 y4 y5) (spec_LabelSet.l0 (k + 1) y0 y1 y2 y3 y4 y5)) ∧ (∀ y0 y1 y2 y3 y4 y5 y6, LeO (spec_LabelSet.j2 k y0 y1 y2 y3 y4 y5 y6) (spec_LabelSet.j2 (k + 1) y0 y1 y2 y3 y4 y5 y6))
  | 0 => ⟨fun _ _ _ _ r h => by simp [spec_LabelSet.j0] at h, fun _ _ _ _ _ _ r h => by simp [spec_LabelSet.l0] at h, fun _ _ _ _ _ _ _ r h => by simp [spec_LabelSet.j2] at h⟩
  | k + 1 => by
    obtain ⟨ih0, ih1, ih2⟩ := spec_LabelSet.mono_l k
    refine ⟨?_, ?_, ?_⟩
    · intro y0 y1 y2 y3
      unfold spec_LabelSet.j0
      repeat' first
      | (with_reducible exact ih0 _ _ _ _)
      | (with_reducible exact ih1 _ _ _ _ _ _)
      | (with_reducible exact ih2 _ _ _ _ _ _ _)
      | (with_reducible exact spec_LabelGet.mono _ _ _)
      | (with_reducible exact spec_LabelsOk.mono _ _)
      | (with_reducible exact spec_NameOk.mono _ _)
      | (with_reducible exact LeO.refl _)
      | (with_reducible exact LeO.none _)
      | (with_reducible refine LeO.ite ?_ ?_)
      | (with_reducible refine LeO.bind ?_ (fun _ => ?_))
      | exact ih0 _ _ _ _
      | exact ih1 _ _ _ _ _ _
      | exact ih2 _ _ _ _ _ _ _
      | exact spec_LabelGet.mono _ _ _
      | exact spec_LabelsOk.mono _ _
      | exact spec_NameOk.mono _ _
      | exact LeO.none _
      | refine LeO.ite ?_ ?_
      | refine LeO.bind ?_ (fun _ => ?_)
    · intro y0 y1 y2 y3 y4 y5
      unfold spec_LabelSet.l0
      repeat' first
      | (with_reducible exact ih0 _ _ _ _)
      | (with_reducible exact ih1 _ _ _ _ _ _)
      | (with_reducible exact ih2 _ _ _ _ _ _ _)
      | (with_reducible exact spec_LabelGet.mono _ _ _)
      | (with_reducible exact spec_LabelsOk.mono _ _)
      | (with_reducible exact spec_NameOk.mono _ _)
      | (with_reducible exact LeO.refl _)
      | (with_reducible exact LeO.none _)
      | (with_reducible refine LeO.ite ?_ ?_)
      | (with_reducible refine LeO.bind ?_ (fun _ => ?_))
      | exact ih0 _ _ _ _
      | exact ih1 _ _ _ _ _ _
      | exact ih2 _ _ _ _ _ _ _
      | exact spec_LabelGet.mono _ _ _
      | exact spec_LabelsOk.mono _ _
      | exact spec_NameOk.mono _ _
      | exact LeO.none _
      | refine LeO.ite ?_ ?_
      | refine LeO.bind ?_ (fun _ => ?_)
    · intro y0 y1 y2 y3 y4 y5 y6
      unfold spec_LabelSet.j2
      repeat' first
      | (with_reducible exact ih0 _ _ _ _)
      | (with_reducible exact ih1 _ _ _ _ _ _)
      | (with_reducible exact ih2 _ _ _ _ _ _ _)
      | (with_reducible exact spec_LabelGet.mono _ _ _)
      | (with_reducible exact spec_LabelsOk.mono _ _)
      | (with_reducible exact spec_NameOk.mono _ _)
      | (with_reducible exact LeO.refl _)
      | (with_reducible exact LeO.none _)
      | (with_reducible refine LeO.ite ?_ ?_)
      | (with_reducible refine LeO.bind ?_ (fun _ => ?_))
      | exact ih0 _ _ _ _
      | exact ih1 _ _ _ _ _ _
      | exact ih2 _ _ _ _ _ _ _
      | exact spec_LabelGet.mono _ _ _
      | exact spec_LabelsOk.mono _ _
      | exact spec_NameOk.mono _ _
      | exact LeO.none _
      | refine LeO.ite ?_ ?_
      | refine LeO.bind ?_ (fun _ => ?_)
theorem spec_LabelSet.mono : ∀ a0 a1 a2 k, LeO (spec_LabelSet.f k a0 a1 a2) (spec_LabelSet.f (k + 1) a0 a1 a2) := by
  intro a0 a1 a2 k
  obtain ⟨ih0, ih1, ih2⟩ := spec_LabelSet.mono_l k
  unfold spec_LabelSet.f
  repeat' first
      | (with_reducible exact ih0 _ _ _ _)
      | (with_reducible exact ih1 _ _ _ _ _ _)
      | (with_reducible exact ih2 _ _ _ _ _ _ _)
      | (with_reducible exact spec_LabelGet.mono _ _ _)
      | (with_reducible exact spec_LabelsOk.mono _ _)
      | (with_reducible exact spec_NameOk.mono _ _)
      | (with_reducible exact LeO.refl _)
      | (with_reducible exact LeO.none _)
      | (with_reducible refine LeO.ite ?_ ?_)
      | (with_reducible refine LeO.bind ?_ (fun _ => ?_))
      | exact ih0 _ _ _ _
      | exact ih1 _ _ _ _ _ _
      | exact ih2 _ _ _ _ _ _ _
      | exact spec_LabelGet.mono _ _ _
      | exact spec_LabelsOk.mono _ _
      | exact spec_NameOk.mono _ _
      | exact LeO.none _
      | refine LeO.ite ?_ ?_
      | refine LeO.bind ?_ (fun _ => ?_)
set_option maxHeartbeats 8000000 in
set_option maxRecDepth 100000 in
theorem spec_LabelSet.calls (k : Nat) (A0 : Option Addr) (c0 : Nat) (l0 : List (S56)) (a1 : ByteArray) (a2 : ByteArray) (r1 : List (S56)) (r2 : Bool) (w : World) (hr0 : Kd.C k56 w A0 l0.length l0) (hc0 : l0.length ≤ c0) (h : spec_LabelSet.f k l0 a1 a2 = some (r1, r2)) :
    Calls Try.prog 20 #[.slice A0 l0.length c0, .string a1, .string a2] w fun e w' => ∃ v0_ : Value, e = .returned (.tuple #[v0_, .bool r2]) ∧ Kd.R k56 56 w' w.heap.size (fun _ => True) v0_ r1 ∧ Below w.heap.size w w' := by
  have hu56 := Try.underlying56
  have HR0 := Aside0.mk hr0
  have HC0 := Aside0.mk hc0
  clear hr0 hc0
  have HB := Aside0.mk (Below.refl w.heap.size w)
  have H : ((spec_LabelGet.f k l0 a1).bind fun bt221 => ((spec_LabelsOk.f k l0).bind fun t223 => (if t223 = true then ((spec_NameOk.f k a1).bind fun t224 => (if t224 = true then ((spec_NameOk.f k a2).bind fun t225 => (if t225 = true then (if bt221.2 = true then (spec_LabelSet.j0 k l0 a1 a2 false) else (spec_LabelSet.j0 k l0 a1 a2 ((l0.length : Int) == 8))) else (spec_LabelSet.j0 k l0 a1 a2 true))) else (spec_LabelSet.j0 k l0 a1 a2 true))) else (spec_LabelSet.j0 k l0 a1 a2 true)))) = some (r1, r2) := h
  clear h
  replace H := Option.bind_eq_some_iff.mp H
  obtain ⟨⟨t221, t222⟩, A40, H⟩ := H
  replace H : ((spec_LabelsOk.f k l0).bind fun t223 => (if t223 = true then ((spec_NameOk.f k a1).bind fun t224 => (if t224 = true then ((spec_NameOk.f k a2).bind fun t225 => (if t225 = true then (if t222 = true then (spec_LabelSet.j0 k l0 a1 a2 false) else (spec_LabelSet.j0 k l0 a1 a2 ((l0.length : Int) == 8))) else (spec_LabelSet.j0 k l0 a1 a2 true))) else (spec_LabelSet.j0 k l0 a1 a2 true))) else (spec_LabelSet.j0 k l0 a1 a2 true))) = some (r1, r2) := H
  have A4 := Aside0.mk A40
  clear A40
  have HC5 := Aside0.mk H
  clear H
  go_enter Try.func20, Try.ntmps20
  go_upto_region 2 with (first | ((with_reducible refine gate_callee (f := 45) rfl ?_); refine goesL_ (some 16) rfl rfl Try.func45 (by kernel_rfl) rfl #[.slice A0 l0.length c0, .string a1] rfl (by (try simp only [List.map_toArray, List.map_cons, List.map_nil]); first | done | rfl | (simp only [List.length_drop, List.length_take]; rfl)) ?_; (with_reducible refine (spec_LabelGet.calls k _ _ l0 a1 t221 t222 _ ?side1 ?side2 A4.out).mono ?_); (case side1 => repeat (first | exact HR0.out | (with_reducible refine Kd.C_alloc ?_ _) | (with_reducible refine Kd.C_drewN ?_ _) | (with_reducible refine Kd.C_drew ?_))); (case side2 => exact HC0.out); rintro e w' ⟨rfl, ⟨nd, rfl⟩⟩; refine ⟨_, rfl, ?_⟩))
  (try simp only [Act.put, List.setIfInBounds_toArray, List.set_cons_zero, List.set_cons_succ])
  go_cut [40] (fun v40 wc => ∃ (kq : Nat) (x40_4 : Bool), v40 = .bool x40_4 ∧ Aside0 (spec_LabelSet.j0 kq l0 a1 a2 x40_4 = some (r1, r2)) ∧ Aside0 (kq ≤ k) ∧ Aside0 (Below w.heap.size w wc))
  case first =>
    have H := HC5.out
    clear HC5
    replace H := Option.bind_eq_some_iff.mp H
    obtain ⟨t223, A60, H⟩ := H
    replace H : (if t223 = true then ((spec_NameOk.f k a1).bind fun t224 => (if t224 = true then ((spec_NameOk.f k a2).bind fun t225 => (if t225 = true then (if t222 = true then (spec_LabelSet.j0 k l0 a1 a2 false) else (spec_LabelSet.j0 k l0 a1 a2 ((l0.length : Int) == 8))) else (spec_LabelSet.j0 k l0 a1 a2 true))) else (spec_LabelSet.j0 k l0 a1 a2 true))) else (spec_LabelSet.j0 k l0 a1 a2 true)) = some (r1, r2) := H
    have A6 := Aside0.mk A60
    clear A60
    by_cases c7 : t223 = true
    · subst c7
      have H1 : ((spec_NameOk.f k a1).bind fun t224 => (if t224 = true then ((spec_NameOk.f k a2).bind fun t225 => (if t225 = true then (if t222 = true then (spec_LabelSet.j0 k l0 a1 a2 false) else (spec_LabelSet.j0 k l0 a1 a2 ((l0.length : Int) == 8))) else (spec_LabelSet.j0 k l0 a1 a2 true))) else (spec_LabelSet.j0 k l0 a1 a2 true))) = some (r1, r2) := by rw [if_pos rfl] at H; exact H
      clear H
      have H := H1
      clear H1
      replace H := Option.bind_eq_some_iff.mp H
      obtain ⟨t224, A80, H⟩ := H
      replace H : (if t224 = true then ((spec_NameOk.f k a2).bind fun t225 => (if t225 = true then (if t222 = true then (spec_LabelSet.j0 k l0 a1 a2 false) else (spec_LabelSet.j0 k l0 a1 a2 ((l0.length : Int) == 8))) else (spec_LabelSet.j0 k l0 a1 a2 true))) else (spec_LabelSet.j0 k l0 a1 a2 true)) = some (r1, r2) := H
      have A8 := Aside0.mk A80
      clear A80
      by_cases c9 : t224 = true
      · subst c9
        have H1 : ((spec_NameOk.f k a2).bind fun t225 => (if t225 = true then (if t222 = true then (spec_LabelSet.j0 k l0 a1 a2 false) else (spec_LabelSet.j0 k l0 a1 a2 ((l0.length : Int) == 8))) else (spec_LabelSet.j0 k l0 a1 a2 true))) = some (r1, r2) := by rw [if_pos rfl] at H; exact H
        clear H
        have H := H1
        clear H1
        replace H := Option.bind_eq_some_iff.mp H
        obtain ⟨t225, A100, H⟩ := H
        replace H : (if t225 = true then (if t222 = true then (spec_LabelSet.j0 k l0 a1 a2 false) else (spec_LabelSet.j0 k l0 a1 a2 ((l0.length : Int) == 8))) else (spec_LabelSet.j0 k l0 a1 a2 true)) = some (r1, r2) := H
        have A10 := Aside0.mk A100
        clear A100
        by_cases c11 : t225 = true
        · subst c11
          have H1 : (if t222 = true then (spec_LabelSet.j0 k l0 a1 a2 false) else (spec_LabelSet.j0 k l0 a1 a2 ((l0.length : Int) == 8))) = some (r1, r2) := by rw [if_pos rfl] at H; exact H
          clear H
          have H := H1
          clear H1
          by_cases c12 : t222 = true
          · subst c12
            have H1 : (spec_LabelSet.j0 k l0 a1 a2 false) = some (r1, r2) := by rw [if_pos rfl] at H; exact H
            clear H
            have H := H1
            clear H1
            have H' := Aside0.mk H
            clear H
            go_wp2_with (first | ((with_reducible refine gate_callee (f := 35) rfl ?_); refine goesL_ (some 20) rfl rfl Try.func35 (by kernel_rfl) rfl #[.slice A0 l0.length c0] rfl (by (try simp only [List.map_toArray, List.map_cons, List.map_nil]); first | done | rfl | (simp only [List.length_drop, List.length_take]; rfl)) ?_; (with_reducible refine (spec_LabelsOk.calls k _ _ l0 true _ ?side1 ?side2 A6.out).mono ?_); (case side1 => repeat (first | exact (Kd.C_below HR0.out HB.out) | (with_reducible refine Kd.C_alloc ?_ _) | (with_reducible refine Kd.C_drewN ?_ _) | (with_reducible refine Kd.C_drew ?_))); (case side2 => exact HC0.out); rintro e w13 ⟨rfl, hb⟩; refine ⟨_, rfl, ?_⟩; have n0_ := Aside0.mk (below_step (by repeat (first | (with_reducible first | exact HB.out | apply below_alloc | apply pw_below_drewN | apply below_drew1) | exact HB.out)) hb); clear HB; have HB := n0_; clear n0_; (try clear hb); (try clear hb2); (try clear hk); (try clear hi)) | (go_at_call 46; (with_reducible refine (spec_NameOk.calls k a1 true _ A8.out).mono ?_); rintro e w' ⟨rfl, ⟨nd, rfl⟩⟩) | (go_at_call 46; (with_reducible refine (spec_NameOk.calls k a2 true _ A10.out).mono ?_); rintro e w' ⟨rfl, ⟨nd, rfl⟩⟩))
            go_meet
            case rel => exact ⟨_, (false), (by first | rfl | (simp; done) | (simp [*]; done)), H', ⟨by first | omega | exact Nat.le_refl _⟩, ⟨by repeat (first | (with_reducible first | exact HB.out | apply below_alloc | apply pw_below_drewN | apply below_drew1) | exact HB.out)⟩⟩
          · replace c12 := Bool.eq_false_iff.mpr c12
            subst c12
            have H1 : (spec_LabelSet.j0 k l0 a1 a2 ((l0.length : Int) == 8)) = some (r1, r2) := by rw [if_neg (show ¬ (false = true) by decide)] at H; exact H
            clear H
            have H := H1
            clear H1
            have H' := Aside0.mk H
            clear H
            go_wp2_with (first | ((with_reducible refine gate_callee (f := 35) rfl ?_); refine goesL_ (some 20) rfl rfl Try.func35 (by kernel_rfl) rfl #[.slice A0 l0.length c0] rfl (by (try simp only [List.map_toArray, List.map_cons, List.map_nil]); first | done | rfl | (simp only [List.length_drop, List.length_take]; rfl)) ?_; (with_reducible refine (spec_LabelsOk.calls k _ _ l0 true _ ?side1 ?side2 A6.out).mono ?_); (case side1 => repeat (first | exact (Kd.C_below HR0.out HB.out) | (with_reducible refine Kd.C_alloc ?_ _) | (with_reducible refine Kd.C_drewN ?_ _) | (with_reducible refine Kd.C_drew ?_))); (case side2 => exact HC0.out); rintro e w14 ⟨rfl, hb⟩; refine ⟨_, rfl, ?_⟩; have n0_ := Aside0.mk (below_step (by repeat (first | (with_reducible first | exact HB.out | apply below_alloc | apply pw_below_drewN | apply below_drew1) | exact HB.out)) hb); clear HB; have HB := n0_; clear n0_; (try clear hb); (try clear hb2); (try clear hk); (try clear hi)) | (go_at_call 46; (with_reducible refine (spec_NameOk.calls k a1 true _ A8.out).mono ?_); rintro e w' ⟨rfl, ⟨nd, rfl⟩⟩) | (go_at_call 46; (with_reducible refine (spec_NameOk.calls k a2 true _ A10.out).mono ?_); rintro e w' ⟨rfl, ⟨nd, rfl⟩⟩))
            go_meet
            case rel => exact ⟨_, (((l0.length : Int) == 8)), (by first | rfl | (simp; done) | (simp [*]; done)), H', ⟨by first | omega | exact Nat.le_refl _⟩, ⟨by repeat (first | (with_reducible first | exact HB.out | apply below_alloc | apply pw_below_drewN | apply below_drew1) | exact HB.out)⟩⟩
        · replace c11 := Bool.eq_false_iff.mpr c11
          subst c11
          have H1 : (spec_LabelSet.j0 k l0 a1 a2 true) = some (r1, r2) := by rw [if_neg (show ¬ (false = true) by decide)] at H; exact H
          clear H
          have H := H1
          clear H1
          have H' := Aside0.mk H
          clear H
          go_wp2_with (first | ((with_reducible refine gate_callee (f := 35) rfl ?_); refine goesL_ (some 20) rfl rfl Try.func35 (by kernel_rfl) rfl #[.slice A0 l0.length c0] rfl (by (try simp only [List.map_toArray, List.map_cons, List.map_nil]); first | done | rfl | (simp only [List.length_drop, List.length_take]; rfl)) ?_; (with_reducible refine (spec_LabelsOk.calls k _ _ l0 true _ ?side1 ?side2 A6.out).mono ?_); (case side1 => repeat (first | exact (Kd.C_below HR0.out HB.out) | (with_reducible refine Kd.C_alloc ?_ _) | (with_reducible refine Kd.C_drewN ?_ _) | (with_reducible refine Kd.C_drew ?_))); (case side2 => exact HC0.out); rintro e w15 ⟨rfl, hb⟩; refine ⟨_, rfl, ?_⟩; have n0_ := Aside0.mk (below_step (by repeat (first | (with_reducible first | exact HB.out | apply below_alloc | apply pw_below_drewN | apply below_drew1) | exact HB.out)) hb); clear HB; have HB := n0_; clear n0_; (try clear hb); (try clear hb2); (try clear hk); (try clear hi)) | (go_at_call 46; (with_reducible refine (spec_NameOk.calls k a1 true _ A8.out).mono ?_); rintro e w' ⟨rfl, ⟨nd, rfl⟩⟩) | (go_at_call 46; (with_reducible refine (spec_NameOk.calls k a2 false _ A10.out).mono ?_); rintro e w' ⟨rfl, ⟨nd, rfl⟩⟩))
          go_meet
          case rel => exact ⟨_, (true), (by first | rfl | (simp; done) | (simp [*]; done)), H', ⟨by first | omega | exact Nat.le_refl _⟩, ⟨by repeat (first | (with_reducible first | exact HB.out | apply below_alloc | apply pw_below_drewN | apply below_drew1) | exact HB.out)⟩⟩
      · replace c9 := Bool.eq_false_iff.mpr c9
        subst c9
        have H1 : (spec_LabelSet.j0 k l0 a1 a2 true) = some (r1, r2) := by rw [if_neg (show ¬ (false = true) by decide)] at H; exact H
        clear H
        have H := H1
        clear H1
        have H' := Aside0.mk H
        clear H
        go_wp2_with (first | ((with_reducible refine gate_callee (f := 35) rfl ?_); refine goesL_ (some 20) rfl rfl Try.func35 (by kernel_rfl) rfl #[.slice A0 l0.length c0] rfl (by (try simp only [List.map_toArray, List.map_cons, List.map_nil]); first | done | rfl | (simp only [List.length_drop, List.length_take]; rfl)) ?_; (with_reducible refine (spec_LabelsOk.calls k _ _ l0 true _ ?side1 ?side2 A6.out).mono ?_); (case side1 => repeat (first | exact (Kd.C_below HR0.out HB.out) | (with_reducible refine Kd.C_alloc ?_ _) | (with_reducible refine Kd.C_drewN ?_ _) | (with_reducible refine Kd.C_drew ?_))); (case side2 => exact HC0.out); rintro e w16 ⟨rfl, hb⟩; refine ⟨_, rfl, ?_⟩; have n0_ := Aside0.mk (below_step (by repeat (first | (with_reducible first | exact HB.out | apply below_alloc | apply pw_below_drewN | apply below_drew1) | exact HB.out)) hb); clear HB; have HB := n0_; clear n0_; (try clear hb); (try clear hb2); (try clear hk); (try clear hi)) | (go_at_call 46; (with_reducible refine (spec_NameOk.calls k a1 false _ A8.out).mono ?_); rintro e w' ⟨rfl, ⟨nd, rfl⟩⟩))
        go_meet
        case rel => exact ⟨_, (true), (by first | rfl | (simp; done) | (simp [*]; done)), H', ⟨by first | omega | exact Nat.le_refl _⟩, ⟨by repeat (first | (with_reducible first | exact HB.out | apply below_alloc | apply pw_below_drewN | apply below_drew1) | exact HB.out)⟩⟩
    · replace c7 := Bool.eq_false_iff.mpr c7
      subst c7
      have H1 : (spec_LabelSet.j0 k l0 a1 a2 true) = some (r1, r2) := by rw [if_neg (show ¬ (false = true) by decide)] at H; exact H
      clear H
      have H := H1
      clear H1
      have H' := Aside0.mk H
      clear H
      go_wp2_with (first | ((with_reducible refine gate_callee (f := 35) rfl ?_); refine goesL_ (some 20) rfl rfl Try.func35 (by kernel_rfl) rfl #[.slice A0 l0.length c0] rfl (by (try simp only [List.map_toArray, List.map_cons, List.map_nil]); first | done | rfl | (simp only [List.length_drop, List.length_take]; rfl)) ?_; (with_reducible refine (spec_LabelsOk.calls k _ _ l0 false _ ?side1 ?side2 A6.out).mono ?_); (case side1 => repeat (first | exact (Kd.C_below HR0.out HB.out) | (with_reducible refine Kd.C_alloc ?_ _) | (with_reducible refine Kd.C_drewN ?_ _) | (with_reducible refine Kd.C_drew ?_))); (case side2 => exact HC0.out); rintro e w17 ⟨rfl, hb⟩; refine ⟨_, rfl, ?_⟩; have n0_ := Aside0.mk (below_step (by repeat (first | (with_reducible first | exact HB.out | apply below_alloc | apply pw_below_drewN | apply below_drew1) | exact HB.out)) hb); clear HB; have HB := n0_; clear n0_; (try clear hb); (try clear hb2); (try clear hk); (try clear hi)))
      go_meet
      case rel => exact ⟨_, (true), (by first | rfl | (simp; done) | (simp [*]; done)), H', ⟨by first | omega | exact Nat.le_refl _⟩, ⟨by repeat (first | (with_reducible first | exact HB.out | apply below_alloc | apply pw_below_drewN | apply below_drew1) | exact HB.out)⟩⟩
  case rest =>
    clear HC5
    try clear c1
    try clear c2
    try clear p2
    try clear c3
    try clear c4
    try clear c7
    try clear c9
    try clear c11
    try clear c12
    obtain ⟨kq, x40_4, rfl, HA, HJ4, HB⟩ := hcut
    cases kq with
    | zero => exact absurd HA.out (by simp [spec_LabelSet.j0])
    | succ kj4 =>
      have H := HA.out
      clear HA
      simp only [spec_LabelSet.j0] at H
      by_cases c18 : x40_4 = true
      · subst c18
        have H1 : ((spec_l1Labels.f l0).bind fun t226 => (some (t226, false))) = some (r1, r2) := by rw [if_pos rfl] at H; exact H
        clear H
        have H := H1
        clear H1
        replace H := Option.bind_eq_some_iff.mp H
        obtain ⟨t226, A190, H⟩ := H
        replace H : (some (t226, false)) = some (r1, r2) := H
        have A19 := Aside0.mk A190
        clear A190
        simp only [Option.some.injEq, Prod.mk.injEq] at H
        obtain ⟨rfl, rfl⟩ := H
        go_wp2_with (first | ((with_reducible refine gate_callee (f := 47) rfl ?_); refine goesL_ (some 42) rfl rfl Try.func47 (by kernel_rfl) rfl #[.slice A0 l0.length c0] rfl (by (try simp only [List.map_toArray, List.map_cons, List.map_nil]); first | done | rfl | (simp only [List.length_drop, List.length_take]; rfl)) ?_; (with_reducible refine (spec_l1Labels.calls _ _ l0 t226 _ ?side1 ?side2 A19.out).mono ?_); (case side1 => repeat (first | exact (Kd.C_below HR0.out HB.out) | (with_reducible refine Kd.C_alloc ?_ _) | (with_reducible refine Kd.C_drewN ?_ _) | (with_reducible refine Kd.C_drew ?_))); (case side2 => exact HC0.out); rintro e w20 ⟨v227, rfl, ho0, hb⟩; refine ⟨_, rfl, ?_⟩; have n0_ := Aside0.mk (Kd.R_lower ho0 (below_size (by repeat (first | (with_reducible first | exact HB.out | apply below_alloc | apply pw_below_drewN | apply below_drew1) | exact HB.out)))); have n1_ := Aside0.mk (below_step (by repeat (first | (with_reducible first | exact HB.out | apply below_alloc | apply pw_below_drewN | apply below_drew1) | exact HB.out)) hb); clear HB; have HO228 := n0_; have HB := n1_; clear n0_ n1_; (try clear hb); (try clear hb2); (try clear hk); (try clear hi); (try clear ho0)))
        go_ret2
        exact ⟨_, by first | rfl | (simp [errW_none, errW_some] <;> rfl) | (simp [*, errW_none, errW_some] <;> rfl), by (with_reducible repeat (first | apply Kd.R_alloc | apply Kd.R_drewN | apply Kd.R_drew)); exact HO228.out, by repeat (first | (with_reducible first | exact HB.out | apply below_alloc | apply pw_below_drewN | apply below_drew1) | exact HB.out)⟩
      · replace c18 := Bool.eq_false_iff.mpr c18
        subst c18
        have H1 : (spec_LabelSet.l0 kj4 l0 a1 a2 (([] : List (S56))) false 0) = some (r1, r2) := by rw [if_neg (show ¬ (false = true) by decide)] at H; exact H
        clear H
        have H := H1
        clear H1
        obtain ⟨y229, hy229⟩ : ∃ y_ : List (S56), y_ = (([] : List (S56))) := ⟨_, rfl⟩
        replace H : (spec_LabelSet.l0 kj4 l0 a1 a2 y229 false 0) = some (r1, r2) := by first | (rw [hy229]; with_reducible exact H) | (have H2_ := (Option.bind_some _ _).symm.trans H; rw [hy229]; with_reducible exact H2_) | (have H2_ := (Option.bind_some _ _).symm.trans H; with_reducible exact H2_) | with_reducible exact H | (rw [hy229]; exact H) | exact H
        have Ny229 := Aside0.mk hy229
        clear hy229
        have H' := Aside0.mk H
        clear H
        go_wp2_with (first | ((with_reducible refine gate_dst (N := 43) rfl ?_); (try (refine gate_guard (by rfl) ?_; dsimp only)); refine Kd.R_lit k56 _ 56 ?hg (N := 43) ?hd (xs := ([] : List (S56))) (inner := []) (ok := fun _ => True) (okp := fun _ => True) ?hr ?hp (fun _ hk => hk) trivial (Below.refl _ _) (Nat.le_refl _) (by simp) ?_; (case hd => rfl); (case hg => rfl); (case hr => first | (go_simp; done) | (go_simp; rfl)); (case hp => exact (Reps.none _ _)); intro v230 w21 ho22 hb hg_ hnew_; clear hg_ hnew_; (first | rw [← Ny229.out] at ho22 | (simp only [Int.reduceToNat] at ho22; rw [← Ny229.out] at ho22)); have n0_ := Aside0.mk (Kd.R_lower ho22 (below_size (by repeat (first | (with_reducible first | exact HB.out | apply below_alloc | apply pw_below_drewN | apply below_drew1) | exact HB.out)))); have n1_ := Aside0.mk (below_step (by repeat (first | (with_reducible first | exact HB.out | apply below_alloc | apply pw_below_drewN | apply below_drew1) | exact HB.out)) hb); clear HB; have HO231 := n0_; have HB := n1_; clear n0_ n1_; clear hb ho22))
        go_loopg [10, 11, 12] kj4 (fun kq v10 v11 v12 w' => ∃ (x10_2 : List (S56)) (x11_2 : Bool) (x12_2 : Int), v11 = .bool x11_2 ∧ v12 = .int .i64 x12_2 ∧ Aside0 (spec_LabelSet.l0 kq l0 a1 a2 x10_2 x11_2 x12_2 = some (r1, r2)) ∧ Aside0 (kq ≤ kj4) ∧ Aside0 (Kd.R k56 56 w' w.heap.size (fun _ => True) v10 x10_2) ∧ Aside0 (Below w.heap.size w w'))
        case atStart => exact ⟨(y229), (false), (0), (by first | rfl | (simp; done) | (simp [*]; done)), (by first | rfl | (simp; done) | (simp [*]; done)), H', ⟨Nat.le_refl _⟩, ⟨by (with_reducible repeat (first | apply Kd.R_alloc | apply Kd.R_drewN | apply Kd.R_drew)); exact HO231.out⟩, ⟨by repeat (first | (with_reducible first | exact HB.out | apply below_alloc | apply pw_below_drewN | apply below_drew1) | exact HB.out)⟩⟩
        case round =>
          clear H'
          try clear c1
          try clear c2
          try clear p2
          try clear c3
          try clear c4
          try clear c7
          try clear c9
          try clear c11
          try clear c12
          try clear c18
          try clear c20
          try clear p2
          obtain ⟨x10_2, x11_2, x12_2, rfl, rfl, HA, HK2, HO_10, HB⟩ := hrel
          cases gk with
          | zero => exact absurd HA.out (by simp [spec_LabelSet.l0])
          | succ k2 =>
            have H := HA.out
            clear HA
            simp only [spec_LabelSet.l0] at H
            by_cases c23 : x12_2 < (l0.length : Int)
            · rw [if_pos c23] at H
              have c23b0 : decide (x12_2 < (l0.length : Int)) = true := decide_eq_true c23
              clear c23
              have HC24 := Aside0.mk H
              clear H
              go_upto_region 9 with (fail)
              go_cut [60] (fun v60 wc => ∃ (kq : Nat) (x60_23 : Bool), v60 = .bool x60_23 ∧ Aside0 (spec_LabelSet.j2 kq l0 a1 a2 x10_2 x11_2 x12_2 x60_23 = some (r1, r2)) ∧ Aside0 (kq ≤ k2) ∧ Aside0 (Kd.R k56 56 wc w.heap.size (fun _ => True) u10 x10_2) ∧ Aside0 (Below w.heap.size w wc))
              case first =>
                have H := HC24.out
                clear HC24
                by_cases c25 : x11_2 = true
                · subst c25
                  have H1 : (spec_LabelSet.j2 k2 l0 a1 a2 x10_2 true x12_2 false) = some (r1, r2) := by rw [if_pos rfl] at H; exact H
                  clear H
                  have H := H1
                  clear H1
                  have H' := Aside0.mk H
                  clear H
                  go_wp2
                  go_meet
                  case rel => exact ⟨_, (false), (by first | rfl | (simp; done) | (simp [*]; done)), H', ⟨by have := HJ4.out; have := HK2.out; first | omega | exact Nat.le_refl _⟩, ⟨by (with_reducible repeat (first | apply Kd.R_alloc | apply Kd.R_drewN | apply Kd.R_drew)); exact HO_10.out⟩, ⟨by repeat (first | (with_reducible first | exact HB.out | apply below_alloc | apply pw_below_drewN | apply below_drew1) | exact HB.out)⟩⟩
                · replace c25 := Bool.eq_false_iff.mpr c25
                  subst c25
                  have H1 : (if 0 ≤ x12_2 then (spec_LabelSet.j2 k2 l0 a1 a2 x10_2 false x12_2 (!(Op.bytesLess (((rd_T56 l0 x12_2).f0).toList) a1.toList))) else (none)) = some (r1, r2) := by rw [if_neg (show ¬ (false = true) by decide)] at H; exact H
                  clear H
                  have H := H1
                  clear H1
                  by_cases c26 : 0 ≤ x12_2
                  · rw [if_pos c26] at H
                    have c26b0 : decide (0 ≤ x12_2) = true := decide_eq_true c26
                    clear c26
                    (first | rw [c26b0] | (simp only [i64_w, i32_w]; rw [c26b0]) | skip)
                    have H' := Aside0.mk H
                    clear H
                    have p235 : 0 ≤ (x12_2 : Int) := of_decide_eq_true (by first | (with_reducible assumption) | assumption)
                    have q235 : x12_2 < (l0.length : Int) := of_decide_eq_true (by first | (with_reducible assumption) | assumption)
                    obtain ⟨ad235, e235, hx235_0, hx235_1⟩ := at_T56 HR0.out x12_2 p235 q235
                    cases e235
                    replace hx235_0 := (HB.out.cell (World.block_lt_of_cell? w _ hx235_0)).trans hx235_0
                    replace hx235_1 := (HB.out.cell (World.block_lt_of_cell? w _ hx235_1)).trans hx235_1
                    replace p235 := eq_true p235
                    replace q235 := eq_true q235
                    go_wp2
                    go_meet
                    case rel => exact ⟨_, (!(Op.bytesLess (((rd_T56 l0 x12_2).f0).toList) a1.toList)), (by first | rfl | (simp; done) | (simp [*]; done)), H', ⟨by have := HJ4.out; have := HK2.out; first | omega | exact Nat.le_refl _⟩, ⟨by (with_reducible repeat (first | apply Kd.R_alloc | apply Kd.R_drewN | apply Kd.R_drew)); exact HO_10.out⟩, ⟨by repeat (first | (with_reducible first | exact HB.out | apply below_alloc | apply pw_below_drewN | apply below_drew1) | exact HB.out)⟩⟩
                  · rw [if_neg c26] at H
                    exact absurd H (by simp)
              case rest =>
                clear HC24
                try clear c1
                try clear c2
                try clear p2
                try clear q2
                try clear hx2
                try clear c3
                try clear c4
                try clear c7
                try clear c9
                try clear c11
                try clear c12
                try clear c18
                try clear c20
                try clear c23
                try clear c23b0
                try clear p23
                try clear q23
                try clear hx23
                try clear c25
                try clear c26
                try clear c26b0
                try clear hx235_0
                try clear hx235_1
                try clear p2
                try clear p235
                try clear q235
                obtain ⟨kq, x60_23, rfl, HA, HJ23, HO_10, HB⟩ := hcut
                cases kq with
                | zero => exact absurd HA.out (by simp [spec_LabelSet.j2])
                | succ kj23 =>
                  have H := HA.out
                  clear HA
                  simp only [spec_LabelSet.j2] at H
                  by_cases c27 : x60_23 = true
                  · subst c27
                    have H1 : (if x10_2.length < 4398046511104 then ((some (x10_2 ++ [(⟨a1, a2⟩ : S56)] : List (S56))).bind fun y236 => (if 0 ≤ x12_2 then (if x12_2 < (l0.length : Int) then (if ((rd_T56 l0 x12_2).f0).toList = a1.toList then (spec_LabelSet.l0 kj23 l0 a1 a2 y236 true (wrap64 (x12_2 + 1))) else (if y236.length < 4398046511104 then (spec_LabelSet.l0 kj23 l0 a1 a2 (y236 ++ [(⟨(rd_T56 l0 x12_2).f0, (rd_T56 l0 x12_2).f1⟩ : S56)]) true (wrap64 (x12_2 + 1))) else (none))) else (none)) else (none))) else (none)) = some (r1, r2) := by rw [if_pos rfl] at H; exact H
                    clear H
                    have H := H1
                    clear H1
                    by_cases c28 : x10_2.length < 4398046511104
                    · rw [if_pos c28] at H
                      have LMc28 := Aside0.mk c28
                      clear c28
                      obtain ⟨y236, hy236⟩ : ∃ y_ : List (S56), y_ = (x10_2 ++ [(⟨a1, a2⟩ : S56)]) := ⟨_, rfl⟩
                      replace H : (if 0 ≤ x12_2 then (if x12_2 < (l0.length : Int) then (if ((rd_T56 l0 x12_2).f0).toList = a1.toList then (spec_LabelSet.l0 kj23 l0 a1 a2 y236 true (wrap64 (x12_2 + 1))) else (if y236.length < 4398046511104 then (spec_LabelSet.l0 kj23 l0 a1 a2 (y236 ++ [(⟨(rd_T56 l0 x12_2).f0, (rd_T56 l0 x12_2).f1⟩ : S56)]) true (wrap64 (x12_2 + 1))) else (none))) else (none)) else (none)) = some (r1, r2) := by first | (rw [hy236]; with_reducible exact H) | (have H2_ := (Option.bind_some _ _).symm.trans H; rw [hy236]; with_reducible exact H2_) | (have H2_ := (Option.bind_some _ _).symm.trans H; with_reducible exact H2_) | with_reducible exact H | (rw [hy236]; exact H) | exact H
                      have Ny236 := Aside0.mk hy236
                      clear hy236
                      by_cases c29 : 0 ≤ x12_2
                      · rw [if_pos c29] at H
                        have c29b0 : decide (0 ≤ x12_2) = true := decide_eq_true c29
                        clear c29
                        by_cases c30 : x12_2 < (l0.length : Int)
                        · rw [if_pos c30] at H
                          have c30b0 : decide (x12_2 < (l0.length : Int)) = true := decide_eq_true c30
                          clear c30
                          by_cases c31 : ((rd_T56 l0 x12_2).f0).toList = a1.toList
                          · rw [if_pos c31] at H
                            have c31b0 : (((rd_T56 l0 x12_2).f0).toList == a1.toList) = true := beq_iff_eq.mpr c31
                            have c31b1 : (((rd_T56 l0 x12_2).f0).toList != a1.toList) = false := bne_eq_false_iff_eq.mpr c31
                            clear c31
                            have H' := Aside0.mk H
                            clear H
                            go_wp2_with (first | ((with_reducible refine gate_builtin (b := .append) (xs := #[.tmp 61, .tmp 65]) rfl ?_); (try (refine gate_guard (by rfl) ?_; dsimp only)); at_builtin; refine Kd.R_append k56 (w0 := w) w.heap.size rfl (.tmp 61) (.tmp 65) 24 56 (.agg #[(.string ⟨#[]⟩), (.string ⟨#[]⟩)]) 32 rfl Try.underlying24 info56 rfl (by decide) (by omega) u10 x10_2 (⟨a1, a2⟩ : S56) [.string a1, .string a2] (fun _ => True) (fun _ => False) rfl rfl ?aP (fun _ hk => hk.elim) ?aF ?aO ?aB ?aS ?aL ?_; (case aP => exact k56_mkM _ _ _ (⟨a1, a2⟩ : S56)); (case aB => exact (by repeat (first | (with_reducible first | exact HB.out | apply below_alloc | apply pw_below_drewN | apply below_drew1) | exact HB.out))); (case aF => exact (fun _ _ => trivial)); (case aO => exact (by (with_reducible repeat (first | apply Kd.R_alloc | apply Kd.R_drewN | apply Kd.R_drew)); exact HO_10.out)); (case aS => exact (below_size (by repeat (first | (with_reducible first | exact HB.out | apply below_alloc | apply pw_below_drewN | apply below_drew1) | exact HB.out)))); (case aL => have := LMc28.out; omega); intro v237 w32 ho hb hg hat; rw [← Ny236.out] at ho; have n0_ := Aside0.mk (hb); have n1_ := Aside0.mk (ho); clear HB; clear HO_10; have HB := n0_; have HO238 := n1_; clear n0_ n1_; clear ho hb hg hat; have p239 : 0 ≤ (x12_2 : Int) := of_decide_eq_true (by first | (with_reducible assumption) | assumption); have q239 : x12_2 < (l0.length : Int) := of_decide_eq_true (by first | (with_reducible assumption) | assumption); obtain ⟨ad239, e239, hx239_0, hx239_1⟩ := at_T56 HR0.out x12_2 p239 q239; cases e239; replace hx239_0 := (HB.out.cell (World.block_lt_of_cell? w _ hx239_0)).trans hx239_0; replace hx239_1 := (HB.out.cell (World.block_lt_of_cell? w _ hx239_1)).trans hx239_1; replace p239 := eq_true p239; replace q239 := eq_true q239))
                            go_roundg kj23
                            case measure => have := HJ4.out; have := HK2.out; have := HJ23.out; omega
                            case rel => exact ⟨(y236), (true), (wrap64 (x12_2 + 1)), (by first | rfl | (simp; done) | (simp [*]; done)), (by first | rfl | (simp; done) | (simp [*]; done)), H', ⟨by have := HJ4.out; have := HK2.out; have := HJ23.out; omega⟩, ⟨by (with_reducible repeat (first | apply Kd.R_alloc | apply Kd.R_drewN | apply Kd.R_drew)); exact HO238.out⟩, ⟨by repeat (first | (with_reducible first | exact HB.out | apply below_alloc | apply pw_below_drewN | apply below_drew1) | exact HB.out)⟩⟩
                          · rw [if_neg c31] at H
                            have c31b0 : (((rd_T56 l0 x12_2).f0).toList == a1.toList) = false := beq_eq_false_iff_ne.mpr c31
                            have c31b1 : (((rd_T56 l0 x12_2).f0).toList != a1.toList) = true := bne_iff_ne.mpr c31
                            by_cases c33 : y236.length < 4398046511104
                            · rw [if_pos c33] at H
                              have LMc33 := Aside0.mk c33
                              clear c33
                              obtain ⟨y241, hy241⟩ : ∃ y_ : List (S56), y_ = (y236 ++ [(⟨(rd_T56 l0 x12_2).f0, (rd_T56 l0 x12_2).f1⟩ : S56)]) := ⟨_, rfl⟩
                              replace H : (spec_LabelSet.l0 kj23 l0 a1 a2 y241 true (wrap64 (x12_2 + 1))) = some (r1, r2) := by first | (rw [hy241]; with_reducible exact H) | (have H2_ := (Option.bind_some _ _).symm.trans H; rw [hy241]; with_reducible exact H2_) | (have H2_ := (Option.bind_some _ _).symm.trans H; with_reducible exact H2_) | with_reducible exact H | (rw [hy241]; exact H) | exact H
                              have Ny241 := Aside0.mk hy241
                              clear hy241
                              have H' := Aside0.mk H
                              clear H
                              go_wp2_with (first | ((with_reducible refine gate_builtin (b := .append) (xs := #[.tmp 61, .tmp 65]) rfl ?_); (try (refine gate_guard (by rfl) ?_; dsimp only)); at_builtin; refine Kd.R_append k56 (w0 := w) w.heap.size rfl (.tmp 61) (.tmp 65) 24 56 (.agg #[(.string ⟨#[]⟩), (.string ⟨#[]⟩)]) 32 rfl Try.underlying24 info56 rfl (by decide) (by omega) u10 x10_2 (⟨a1, a2⟩ : S56) [.string a1, .string a2] (fun _ => True) (fun _ => False) rfl rfl ?aP (fun _ hk => hk.elim) ?aF ?aO ?aB ?aS ?aL ?_; (case aP => exact k56_mkM _ _ _ (⟨a1, a2⟩ : S56)); (case aB => exact (by repeat (first | (with_reducible first | exact HB.out | apply below_alloc | apply pw_below_drewN | apply below_drew1) | exact HB.out))); (case aF => exact (fun _ _ => trivial)); (case aO => exact (by (with_reducible repeat (first | apply Kd.R_alloc | apply Kd.R_drewN | apply Kd.R_drew)); exact HO_10.out)); (case aS => exact (below_size (by repeat (first | (with_reducible first | exact HB.out | apply below_alloc | apply pw_below_drewN | apply below_drew1) | exact HB.out)))); (case aL => have := LMc28.out; omega); intro v237 w34 ho hb hg hat; rw [← Ny236.out] at ho; have n0_ := Aside0.mk (hb); have n1_ := Aside0.mk (ho); clear HB; clear HO_10; have HB := n0_; have HO238 := n1_; clear n0_ n1_; clear ho hb hg hat; have p239 : 0 ≤ (x12_2 : Int) := of_decide_eq_true (by first | (with_reducible assumption) | assumption); have q239 : x12_2 < (l0.length : Int) := of_decide_eq_true (by first | (with_reducible assumption) | assumption); obtain ⟨ad239, e239, hx239_0, hx239_1⟩ := at_T56 HR0.out x12_2 p239 q239; cases e239; replace hx239_0 := (HB.out.cell (World.block_lt_of_cell? w _ hx239_0)).trans hx239_0; replace hx239_1 := (HB.out.cell (World.block_lt_of_cell? w _ hx239_1)).trans hx239_1; replace p239 := eq_true p239; replace q239 := eq_true q239; have p240 : 0 ≤ (x12_2 : Int) := of_decide_eq_true (by first | (with_reducible assumption) | assumption); have q240 : x12_2 < (l0.length : Int) := of_decide_eq_true (by first | (with_reducible assumption) | assumption); obtain ⟨ad240, e240, hx240_0, hx240_1⟩ := at_T56 HR0.out x12_2 p240 q240; obtain rfl : ad239 = ad240 := (by injection e240); replace hx240_0 := (HB.out.cell (World.block_lt_of_cell? w _ hx240_0)).trans hx240_0; replace hx240_1 := (HB.out.cell (World.block_lt_of_cell? w _ hx240_1)).trans hx240_1; replace p240 := eq_true p240; replace q240 := eq_true q240) | ((with_reducible refine gate_builtin (b := .append) (xs := #[.tmp 74, .tmp 79]) rfl ?_); (try (refine gate_guard (by rfl) ?_; dsimp only)); at_builtin; refine Kd.R_append k56 (w0 := w) w.heap.size rfl (.tmp 74) (.tmp 79) 24 56 (.agg #[(.string ⟨#[]⟩), (.string ⟨#[]⟩)]) 32 rfl Try.underlying24 info56 rfl (by decide) (by omega) v237 y236 (⟨(rd_T56 l0 x12_2).f0, (rd_T56 l0 x12_2).f1⟩ : S56) [.string ((rd_T56 l0 x12_2).f0), .string ((rd_T56 l0 x12_2).f1)] (fun _ => True) (fun _ => False) rfl rfl ?aP (fun _ hk => hk.elim) ?aF ?aO ?aB ?aS ?aL ?_; (case aP => exact k56_mkM _ _ _ (⟨(rd_T56 l0 x12_2).f0, (rd_T56 l0 x12_2).f1⟩ : S56)); (case aB => exact (by repeat (first | (with_reducible first | exact HB.out | apply below_alloc | apply pw_below_drewN | apply below_drew1) | exact HB.out))); (case aF => exact (fun _ _ => trivial)); (case aO => exact (by (with_reducible repeat (first | apply Kd.R_alloc | apply Kd.R_drewN | apply Kd.R_drew)); exact HO238.out)); (case aS => exact (below_size (by repeat (first | (with_reducible first | exact HB.out | apply below_alloc | apply pw_below_drewN | apply below_drew1) | exact HB.out)))); (case aL => have := LMc33.out; omega); intro v242 w35 ho hb hg hat; rw [← Ny241.out] at ho; have n0_ := Aside0.mk (hb); have n1_ := Aside0.mk (ho); clear HB; clear HO238; have HB := n0_; have HO243 := n1_; clear n0_ n1_; clear ho hb hg hat))
                              go_roundg kj23
                              case measure => have := HJ4.out; have := HK2.out; have := HJ23.out; omega
                              case rel => exact ⟨(y241), (true), (wrap64 (x12_2 + 1)), (by first | rfl | (simp; done) | (simp [*]; done)), (by first | rfl | (simp; done) | (simp [*]; done)), H', ⟨by have := HJ4.out; have := HK2.out; have := HJ23.out; omega⟩, ⟨by (with_reducible repeat (first | apply Kd.R_alloc | apply Kd.R_drewN | apply Kd.R_drew)); exact HO243.out⟩, ⟨by repeat (first | (with_reducible first | exact HB.out | apply below_alloc | apply pw_below_drewN | apply below_drew1) | exact HB.out)⟩⟩
                            · rw [if_neg c33] at H
                              exact absurd H (by simp)
                        · rw [if_neg c30] at H
                          exact absurd H (by simp)
                      · rw [if_neg c29] at H
                        exact absurd H (by simp)
                    · rw [if_neg c28] at H
                      exact absurd H (by simp)
                  · replace c27 := Bool.eq_false_iff.mpr c27
                    subst c27
                    have H1 : (if 0 ≤ x12_2 then (if x12_2 < (l0.length : Int) then (if ((rd_T56 l0 x12_2).f0).toList = a1.toList then (spec_LabelSet.l0 kj23 l0 a1 a2 x10_2 x11_2 (wrap64 (x12_2 + 1))) else (if x10_2.length < 4398046511104 then (spec_LabelSet.l0 kj23 l0 a1 a2 (x10_2 ++ [(⟨(rd_T56 l0 x12_2).f0, (rd_T56 l0 x12_2).f1⟩ : S56)]) x11_2 (wrap64 (x12_2 + 1))) else (none))) else (none)) else (none)) = some (r1, r2) := by rw [if_neg (show ¬ (false = true) by decide)] at H; exact H
                    clear H
                    have H := H1
                    clear H1
                    by_cases c36 : 0 ≤ x12_2
                    · rw [if_pos c36] at H
                      have c36b0 : decide (0 ≤ x12_2) = true := decide_eq_true c36
                      clear c36
                      by_cases c37 : x12_2 < (l0.length : Int)
                      · rw [if_pos c37] at H
                        have c37b0 : decide (x12_2 < (l0.length : Int)) = true := decide_eq_true c37
                        clear c37
                        by_cases c38 : ((rd_T56 l0 x12_2).f0).toList = a1.toList
                        · rw [if_pos c38] at H
                          have c38b0 : (((rd_T56 l0 x12_2).f0).toList == a1.toList) = true := beq_iff_eq.mpr c38
                          have c38b1 : (((rd_T56 l0 x12_2).f0).toList != a1.toList) = false := bne_eq_false_iff_eq.mpr c38
                          clear c38
                          have H' := Aside0.mk H
                          clear H
                          have p244 : 0 ≤ (x12_2 : Int) := of_decide_eq_true (by first | (with_reducible assumption) | assumption)
                          have q244 : x12_2 < (l0.length : Int) := of_decide_eq_true (by first | (with_reducible assumption) | assumption)
                          obtain ⟨ad244, e244, hx244_0, hx244_1⟩ := at_T56 HR0.out x12_2 p244 q244
                          cases e244
                          replace hx244_0 := (HB.out.cell (World.block_lt_of_cell? w _ hx244_0)).trans hx244_0
                          replace hx244_1 := (HB.out.cell (World.block_lt_of_cell? w _ hx244_1)).trans hx244_1
                          replace p244 := eq_true p244
                          replace q244 := eq_true q244
                          go_wp2
                          go_roundg kj23
                          case measure => have := HJ4.out; have := HK2.out; have := HJ23.out; omega
                          case rel => exact ⟨(x10_2), (x11_2), (wrap64 (x12_2 + 1)), (by first | rfl | (simp; done) | (simp [*]; done)), (by first | rfl | (simp; done) | (simp [*]; done)), H', ⟨by have := HJ4.out; have := HK2.out; have := HJ23.out; omega⟩, ⟨by (with_reducible repeat (first | apply Kd.R_alloc | apply Kd.R_drewN | apply Kd.R_drew)); exact HO_10.out⟩, ⟨by repeat (first | (with_reducible first | exact HB.out | apply below_alloc | apply pw_below_drewN | apply below_drew1) | exact HB.out)⟩⟩
                        · rw [if_neg c38] at H
                          have c38b0 : (((rd_T56 l0 x12_2).f0).toList == a1.toList) = false := beq_eq_false_iff_ne.mpr c38
                          have c38b1 : (((rd_T56 l0 x12_2).f0).toList != a1.toList) = true := bne_iff_ne.mpr c38
                          by_cases c39 : x10_2.length < 4398046511104
                          · rw [if_pos c39] at H
                            have LMc39 := Aside0.mk c39
                            clear c39
                            obtain ⟨y246, hy246⟩ : ∃ y_ : List (S56), y_ = (x10_2 ++ [(⟨(rd_T56 l0 x12_2).f0, (rd_T56 l0 x12_2).f1⟩ : S56)]) := ⟨_, rfl⟩
                            replace H : (spec_LabelSet.l0 kj23 l0 a1 a2 y246 x11_2 (wrap64 (x12_2 + 1))) = some (r1, r2) := by first | (rw [hy246]; with_reducible exact H) | (have H2_ := (Option.bind_some _ _).symm.trans H; rw [hy246]; with_reducible exact H2_) | (have H2_ := (Option.bind_some _ _).symm.trans H; with_reducible exact H2_) | with_reducible exact H | (rw [hy246]; exact H) | exact H
                            have Ny246 := Aside0.mk hy246
                            clear hy246
                            have H' := Aside0.mk H
                            clear H
                            have p244 : 0 ≤ (x12_2 : Int) := of_decide_eq_true (by first | (with_reducible assumption) | assumption)
                            have q244 : x12_2 < (l0.length : Int) := of_decide_eq_true (by first | (with_reducible assumption) | assumption)
                            obtain ⟨ad244, e244, hx244_0, hx244_1⟩ := at_T56 HR0.out x12_2 p244 q244
                            cases e244
                            replace hx244_0 := (HB.out.cell (World.block_lt_of_cell? w _ hx244_0)).trans hx244_0
                            replace hx244_1 := (HB.out.cell (World.block_lt_of_cell? w _ hx244_1)).trans hx244_1
                            replace p244 := eq_true p244
                            replace q244 := eq_true q244
                            have p245 : 0 ≤ (x12_2 : Int) := of_decide_eq_true (by first | (with_reducible assumption) | assumption)
                            have q245 : x12_2 < (l0.length : Int) := of_decide_eq_true (by first | (with_reducible assumption) | assumption)
                            obtain ⟨ad245, e245, hx245_0, hx245_1⟩ := at_T56 HR0.out x12_2 p245 q245
                            obtain rfl : ad244 = ad245 := (by injection e245)
                            replace hx245_0 := (HB.out.cell (World.block_lt_of_cell? w _ hx245_0)).trans hx245_0
                            replace hx245_1 := (HB.out.cell (World.block_lt_of_cell? w _ hx245_1)).trans hx245_1
                            replace p245 := eq_true p245
                            replace q245 := eq_true q245
                            go_wp2_with (first | ((with_reducible refine gate_builtin (b := .append) (xs := #[.tmp 74, .tmp 79]) rfl ?_); (try (refine gate_guard (by rfl) ?_; dsimp only)); at_builtin; refine Kd.R_append k56 (w0 := w) w.heap.size rfl (.tmp 74) (.tmp 79) 24 56 (.agg #[(.string ⟨#[]⟩), (.string ⟨#[]⟩)]) 32 rfl Try.underlying24 info56 rfl (by decide) (by omega) u10 x10_2 (⟨(rd_T56 l0 x12_2).f0, (rd_T56 l0 x12_2).f1⟩ : S56) [.string ((rd_T56 l0 x12_2).f0), .string ((rd_T56 l0 x12_2).f1)] (fun _ => True) (fun _ => False) rfl rfl ?aP (fun _ hk => hk.elim) ?aF ?aO ?aB ?aS ?aL ?_; (case aP => exact k56_mkM _ _ _ (⟨(rd_T56 l0 x12_2).f0, (rd_T56 l0 x12_2).f1⟩ : S56)); (case aB => exact (by repeat (first | (with_reducible first | exact HB.out | apply below_alloc | apply pw_below_drewN | apply below_drew1) | exact HB.out))); (case aF => exact (fun _ _ => trivial)); (case aO => exact (by (with_reducible repeat (first | apply Kd.R_alloc | apply Kd.R_drewN | apply Kd.R_drew)); exact HO_10.out)); (case aS => exact (below_size (by repeat (first | (with_reducible first | exact HB.out | apply below_alloc | apply pw_below_drewN | apply below_drew1) | exact HB.out)))); (case aL => have := LMc39.out; omega); intro v247 w40 ho hb hg hat; rw [← Ny246.out] at ho; have n0_ := Aside0.mk (hb); have n1_ := Aside0.mk (ho); clear HB; clear HO_10; have HB := n0_; have HO248 := n1_; clear n0_ n1_; clear ho hb hg hat))
                            go_roundg kj23
                            case measure => have := HJ4.out; have := HK2.out; have := HJ23.out; omega
                            case rel => exact ⟨(y246), (x11_2), (wrap64 (x12_2 + 1)), (by first | rfl | (simp; done) | (simp [*]; done)), (by first | rfl | (simp; done) | (simp [*]; done)), H', ⟨by have := HJ4.out; have := HK2.out; have := HJ23.out; omega⟩, ⟨by (with_reducible repeat (first | apply Kd.R_alloc | apply Kd.R_drewN | apply Kd.R_drew)); exact HO248.out⟩, ⟨by repeat (first | (with_reducible first | exact HB.out | apply below_alloc | apply pw_below_drewN | apply below_drew1) | exact HB.out)⟩⟩
                          · rw [if_neg c39] at H
                            exact absurd H (by simp)
                      · rw [if_neg c37] at H
                        exact absurd H (by simp)
                    · rw [if_neg c36] at H
                      exact absurd H (by simp)
            · rw [if_neg c23] at H
              have c23b0 : decide (x12_2 < (l0.length : Int)) = false := decide_eq_false c23
              clear c23
              by_cases c41 : x11_2 = true
              · subst c41
                have H1 : (some (x10_2, true)) = some (r1, r2) := by rw [if_pos rfl] at H; exact H
                clear H
                have H := H1
                clear H1
                simp only [Option.some.injEq, Prod.mk.injEq] at H
                obtain ⟨rfl, rfl⟩ := H
                go_wp2
                go_ret2
                exact ⟨_, by first | rfl | (simp [errW_none, errW_some] <;> rfl) | (simp [*, errW_none, errW_some] <;> rfl), by (with_reducible repeat (first | apply Kd.R_alloc | apply Kd.R_drewN | apply Kd.R_drew)); exact HO_10.out, by repeat (first | (with_reducible first | exact HB.out | apply below_alloc | apply pw_below_drewN | apply below_drew1) | exact HB.out)⟩
              · replace c41 := Bool.eq_false_iff.mpr c41
                subst c41
                have H1 : (if x10_2.length < 4398046511104 then (some ((x10_2 ++ [(⟨a1, a2⟩ : S56)]), true)) else (none)) = some (r1, r2) := by rw [if_neg (show ¬ (false = true) by decide)] at H; exact H
                clear H
                have H := H1
                clear H1
                by_cases c42 : x10_2.length < 4398046511104
                · rw [if_pos c42] at H
                  have LMc42 := Aside0.mk c42
                  clear c42
                  obtain ⟨y232, hy232⟩ : ∃ y_ : List (S56), y_ = (x10_2 ++ [(⟨a1, a2⟩ : S56)]) := ⟨_, rfl⟩
                  replace H : (some (y232, true)) = some (r1, r2) := by first | (rw [hy232]; with_reducible exact H) | (have H2_ := (Option.bind_some _ _).symm.trans H; rw [hy232]; with_reducible exact H2_) | (have H2_ := (Option.bind_some _ _).symm.trans H; with_reducible exact H2_) | with_reducible exact H | (rw [hy232]; exact H) | exact H
                  have Ny232 := Aside0.mk hy232
                  clear hy232
                  simp only [Option.some.injEq, Prod.mk.injEq] at H
                  obtain ⟨rfl, rfl⟩ := H
                  go_wp2_with (first | ((with_reducible refine gate_builtin (b := .append) (xs := #[.tmp 83, .tmp 87]) rfl ?_); (try (refine gate_guard (by rfl) ?_; dsimp only)); at_builtin; refine Kd.R_append k56 (w0 := w) w.heap.size rfl (.tmp 83) (.tmp 87) 24 56 (.agg #[(.string ⟨#[]⟩), (.string ⟨#[]⟩)]) 32 rfl Try.underlying24 info56 rfl (by decide) (by omega) u10 x10_2 (⟨a1, a2⟩ : S56) [.string a1, .string a2] (fun _ => True) (fun _ => False) rfl rfl ?aP (fun _ hk => hk.elim) ?aF ?aO ?aB ?aS ?aL ?_; (case aP => exact k56_mkM _ _ _ (⟨a1, a2⟩ : S56)); (case aB => exact (by repeat (first | (with_reducible first | exact HB.out | apply below_alloc | apply pw_below_drewN | apply below_drew1) | exact HB.out))); (case aF => exact (fun _ _ => trivial)); (case aO => exact (by (with_reducible repeat (first | apply Kd.R_alloc | apply Kd.R_drewN | apply Kd.R_drew)); exact HO_10.out)); (case aS => exact (below_size (by repeat (first | (with_reducible first | exact HB.out | apply below_alloc | apply pw_below_drewN | apply below_drew1) | exact HB.out)))); (case aL => have := LMc42.out; omega); intro v233 w43 ho hb hg hat; rw [← Ny232.out] at ho; have n0_ := Aside0.mk (hb); have n1_ := Aside0.mk (ho); clear HB; clear HO_10; have HB := n0_; have HO234 := n1_; clear n0_ n1_; clear ho hb hg hat))
                  go_ret2
                  exact ⟨_, by first | rfl | (simp [errW_none, errW_some] <;> rfl) | (simp [*, errW_none, errW_some] <;> rfl), by (with_reducible repeat (first | apply Kd.R_alloc | apply Kd.R_drewN | apply Kd.R_drew)); exact HO234.out, by repeat (first | (with_reducible first | exact HB.out | apply below_alloc | apply pw_below_drewN | apply below_drew1) | exact HB.out)⟩
                · rw [if_neg c42] at H
                  exact absurd H (by simp)

end Go.Proofs.Ytpjpnppoejnafaa.G
