import Derived.Test.YtpjpnppoejnafaaDoorMFnSelectorsCard1
import Derived.Test.YtpjpnppoejnafaaDoorMFnSelectorsCard2
import Derived.Test.YtpjpnppoejnafaaDoorMFnSelectorsCard3
import Derived.Test.YtpjpnppoejnafaaDoorMFnSelectorsCard4
/- G54 -/
-- Laid by wip/g/gprint.py out of the translation, by the kit's print program. Lean checks it.
namespace Go.Proofs.YtpjpnppoejnafaaDoor.G
open Go.RowKit Go.Proofs.YtpjpnppoejnafaaDoorW.PrintWords Go.Proofs.YtpjpnppoejnafaaDoorW.PrintLast Go.Proofs.YtpjpnppoejnafaaDoorW.PrintMore
attribute [local go_sem] max2_int min2_int max_two min_two max_three min_three max_four min_four   -- for this text's walks alone
set_option linter.unusedVariables false
set_option linter.unusedSimpArgs false

/-! ### spec_LabelGet: function 54 -/
def spec_LabelGet.l0 : Nat → List (S42) → ByteArray → Int → Option (ByteArray × Bool)
 | 0, _, _, _ => none
 | k + 1, x0, x1, x6 => if x6 < (x0.length : Int) then (if 0 ≤ x6 then (if ((rd_T42 x0 x6).f0).toList = x1.toList then (some ((rd_T42 x0 x6).f1, true)) else (spec_LabelGet.l0 k x0 x1 (wrap64 (x6 + 1)))) else (none)) else (some ((⟨#[]⟩ : ByteArray), false))
def spec_LabelGet.f (k : Nat) (l0 : List (S42)) (a1 : ByteArray) : Option (ByteArray × Bool) := spec_LabelGet.l0 k l0 a1 0
set_option maxHeartbeats 8000000 in
set_option maxRecDepth 100000 in
theorem spec_LabelGet.calls (k : Nat) (A0 : Option Addr) (c0 : Nat) (l0 : List (S42)) (a1 : ByteArray) (r1 : ByteArray) (r2 : Bool) (w : World) (hr0 : Kd.C k42 w A0 l0.length l0) (hc0 : l0.length ≤ c0) (h : spec_LabelGet.f k l0 a1 = some (r1, r2)) :
  Calls Tryd.prog 54 #[.slice A0 l0.length c0, .string a1] w fun e w' => e = .returned (.tuple #[.string r1, .bool r2]) ∧ Drawn0 w w' := by
 have HR0 := Aside0.mk hr0
 have HC0 := Aside0.mk hc0
 clear hr0 hc0
 unfold spec_LabelGet.f at h; have H := h
 clear h
 have H' := Aside0.mk H
 clear H
 go_enter Tryd.func54, Tryd.ntmps54
 go_wp2
 go_loopg [6] k (fun kq v6 w' => ∃ (x6_1 : Int), v6 = .int .i64 x6_1 ∧ Aside0 (spec_LabelGet.l0 kq l0 a1 x6_1 = some (r1, r2)) ∧ Aside0 (kq ≤ k) ∧ Drawn0 w w')
 case atStart => exact ⟨(0), (by first | rfl | (simp; done) | (simp [*]; done)), H', ⟨Nat.le_refl _⟩, by repeat (first | exact Drawn0.refl _ | apply Drawn0.step)⟩
 case round =>
  clear H'
  try clear p2
  obtain ⟨x6_1, rfl, HA, HK1, ⟨m1, rfl⟩⟩ := hrel
  cases gk with
  | zero => exact absurd HA.out (by simp [spec_LabelGet.l0])
  | succ k1 =>
   have H := HA.out
   clear HA
   simp only [spec_LabelGet.l0] at H
   by_cases c3 : x6_1 < (l0.length : Int)
   ·rw [if_pos c3] at H
    have c3b0 : decide (x6_1 < (l0.length : Int)) = true := decide_eq_true c3
    clear c3
    by_cases c4 : 0 ≤ x6_1
    ·rw [if_pos c4] at H
     have c4b0 : decide (0 ≤ x6_1) = true := decide_eq_true c4
     clear c4
     by_cases c5 : ((rd_T42 l0 x6_1).f0).toList = a1.toList
     ·rw [if_pos c5] at H
      have c5b0 : (((rd_T42 l0 x6_1).f0).toList == a1.toList) = true := beq_iff_eq.mpr c5
      have c5b1 : (((rd_T42 l0 x6_1).f0).toList != a1.toList) = false := bne_eq_false_iff_eq.mpr c5
      clear c5
      simp only [Option.some.injEq, Prod.mk.injEq] at H
      obtain ⟨rfl, rfl⟩ := H
      have p408 : 0 ≤ (x6_1 : Int) := of_decide_eq_true (by first | (with_reducible assumption) | assumption)
      have q408 : x6_1 < (l0.length : Int) := of_decide_eq_true (by first | (with_reducible assumption) | assumption)
      obtain ⟨ad408, e408, hx408_0, hx408_1⟩ := at_T42 HR0.out x6_1 p408 q408
      cases e408
      replace p408 := eq_true p408
      replace q408 := eq_true q408
      have p409 : 0 ≤ (x6_1 : Int) := of_decide_eq_true (by first | (with_reducible assumption) | assumption)
      have q409 : x6_1 < (l0.length : Int) := of_decide_eq_true (by first | (with_reducible assumption) | assumption)
      obtain ⟨ad409, e409, hx409_0, hx409_1⟩ := at_T42 HR0.out x6_1 p409 q409
      obtain rfl : ad408 = ad409 := (by injection e409)
      replace p409 := eq_true p409
      replace q409 := eq_true q409
      go_wp2
      go_ret2
      exact ⟨by first | rfl | (simp; done) | (simp [*]; done), by repeat (first | exact Drawn0.refl _ | apply Drawn0.step)⟩
     ·rw [if_neg c5] at H
      have c5b0 : (((rd_T42 l0 x6_1).f0).toList == a1.toList) = false := beq_eq_false_iff_ne.mpr c5
      have c5b1 : (((rd_T42 l0 x6_1).f0).toList != a1.toList) = true := bne_iff_ne.mpr c5
      have H' := Aside0.mk H
      clear H
      have p408 : 0 ≤ (x6_1 : Int) := of_decide_eq_true (by first | (with_reducible assumption) | assumption)
      have q408 : x6_1 < (l0.length : Int) := of_decide_eq_true (by first | (with_reducible assumption) | assumption)
      obtain ⟨ad408, e408, hx408_0, hx408_1⟩ := at_T42 HR0.out x6_1 p408 q408
      cases e408
      replace p408 := eq_true p408
      replace q408 := eq_true q408
      go_wp2
      go_roundg k1
      case measure => have := HK1.out; omega
      case rel => exact ⟨(wrap64 (x6_1 + 1)), (by first | rfl | (simp; done) | (simp [*]; done)), H', ⟨by have := HK1.out; omega⟩, by repeat (first | exact Drawn0.refl _ | apply Drawn0.step)⟩
    ·rw [if_neg c4] at H
     exact absurd H (by simp)
   ·rw [if_neg c3] at H
    have c3b0 : decide (x6_1 < (l0.length : Int)) = false := decide_eq_false c3
    clear c3
    simp only [Option.some.injEq, Prod.mk.injEq] at H
    obtain ⟨rfl, rfl⟩ := H
    go_wp2
    go_ret2
    exact ⟨by first | rfl | (simp; done) | (simp [*]; done), by repeat (first | exact Drawn0.refl _ | apply Drawn0.step)⟩

end Go.Proofs.YtpjpnppoejnafaaDoor.G

/- G21 -/
-- Laid by wip/g/gprint.py out of the translation, by the kit's print program. Lean checks it.
namespace Go.Proofs.YtpjpnppoejnafaaDoor.G
open Go.RowKit Go.Proofs.YtpjpnppoejnafaaDoorW.PrintWords Go.Proofs.YtpjpnppoejnafaaDoorW.PrintLast Go.Proofs.YtpjpnppoejnafaaDoorW.PrintMore
attribute [local go_sem] max2_int min2_int max_two min_two max_three min_three max_four min_four   -- for this text's walks alone
set_option linter.unusedVariables false
set_option linter.unusedSimpArgs false

/-! ### impl_LabelGet: function 21 -/
def impl_LabelGet.l0 : Nat → ByteArray → List (S42) → Int → Int → Option (ByteArray × Bool)
 | 0, _, _, _, _ => none
 | k + 1, x1, x8, x9, x10 => if x10 < x9 then (if 0 ≤ x10 then (if x10 < (x8.length : Int) then (if ((rd_T42 x8 x10).f0).toList = x1.toList then (some ((rd_T42 x8 x10).f1, true)) else (impl_LabelGet.l0 k x1 x8 x9 (wrap64 (x10 + 1)))) else (none)) else (none)) else (some ((⟨#[]⟩ : ByteArray), false))
def impl_LabelGet.f (k : Nat) (l0 : List (S42)) (a1 : ByteArray) : Option (ByteArray × Bool) := impl_LabelGet.l0 k a1 l0 (l0.length : Int) 0
set_option maxHeartbeats 8000000 in
set_option maxRecDepth 100000 in
theorem impl_LabelGet.calls (k : Nat) (A0 : Option Addr) (c0 : Nat) (l0 : List (S42)) (a1 : ByteArray) (r1 : ByteArray) (r2 : Bool) (w : World) (hr0 : Kd.C k42 w A0 l0.length l0) (hc0 : l0.length ≤ c0) (h : impl_LabelGet.f k l0 a1 = some (r1, r2)) :
  Calls Tryd.prog 21 #[.slice A0 l0.length c0, .string a1] w fun e w' => e = .returned (.tuple #[.string r1, .bool r2]) ∧ Below w.heap.size w w' := by
 have hu42 := Tryd.underlying42
 have HR0 := Aside0.mk hr0
 have HC0 := Aside0.mk hc0
 clear hr0 hc0
 have HB := Aside0.mk (Below.refl w.heap.size w)
 unfold impl_LabelGet.f at h; have H := h
 clear h
 have H' := Aside0.mk H
 clear H
 go_enter Tryd.func21, Tryd.ntmps21
 go_wp2
 go_loopg [10] k (fun kq v10 w' => ∃ (x10_1 : Int), v10 = .int .i64 x10_1 ∧ Aside0 (impl_LabelGet.l0 kq a1 l0 (l0.length : Int) x10_1 = some (r1, r2)) ∧ Aside0 (kq ≤ k) ∧ Aside0 (Below w.heap.size w w'))
 case atStart => exact ⟨(0), (by first | rfl | (simp; done) | (simp [*]; done)), H', ⟨Nat.le_refl _⟩, ⟨qB HB⟩⟩
 case round =>
  clear H'
  try clear c2
  try clear p2
  obtain ⟨x10_1, rfl, HA, HK1, HB⟩ := hrel
  cases gk with
  | zero => exact absurd HA.out (by simp [impl_LabelGet.l0])
  | succ k1 =>
   have H := HA.out
   clear HA
   simp only [impl_LabelGet.l0] at H
   by_cases c3 : x10_1 < (l0.length : Int)
   ·rw [if_pos c3] at H
    have c3b0 : decide (x10_1 < (l0.length : Int)) = true := decide_eq_true c3
    clear c3
    by_cases c4 : 0 ≤ x10_1
    ·rw [if_pos c4] at H
     have c4b0 : decide (0 ≤ x10_1) = true := decide_eq_true c4
     clear c4
     by_cases c5 : x10_1 < (l0.length : Int)
     ·rw [if_pos c5] at H
      have c5b0 : decide (x10_1 < (l0.length : Int)) = true := decide_eq_true c5
      clear c5
      by_cases c6 : ((rd_T42 l0 x10_1).f0).toList = a1.toList
      ·rw [if_pos c6] at H
       have c6b0 : (((rd_T42 l0 x10_1).f0).toList == a1.toList) = true := beq_iff_eq.mpr c6
       have c6b1 : (((rd_T42 l0 x10_1).f0).toList != a1.toList) = false := bne_eq_false_iff_eq.mpr c6
       clear c6
       simp only [Option.some.injEq, Prod.mk.injEq] at H
       obtain ⟨rfl, rfl⟩ := H
       have p514 : 0 ≤ (x10_1 : Int) := of_decide_eq_true (by first | (with_reducible assumption) | assumption)
       have q514 : x10_1 < (l0.length : Int) := of_decide_eq_true (by first | (with_reducible assumption) | assumption)
       obtain ⟨ad514, e514, hx514_0, hx514_1⟩ := at_T42 HR0.out x10_1 p514 q514
       cases e514
       replace hx514_0 := (HB.out.cell (World.block_lt_of_cell? w _ hx514_0)).trans hx514_0
       replace hx514_1 := (HB.out.cell (World.block_lt_of_cell? w _ hx514_1)).trans hx514_1
       replace p514 := eq_true p514
       replace q514 := eq_true q514
       go_wp2_with (first | ((with_reducible refine gate_dst (N := 7) rfl ?_); refine box_event ?hg (N := 7) ?hd (cs := #[.string (⟨#[]⟩ : ByteArray), .string (⟨#[]⟩ : ByteArray)]) (t := 42) ?hr ?_; (case hd => rfl); (case hg => rfl); (case hr => go_simp); intro gb515 hg w7 hbox hb; have n0_ := Aside0.mk (below_step (qB HB) hb); have n1_ := Aside0.mk (hbox); have n2_ := Aside0.mk (qG HB hg); have n3_ := Aside0.mk (qG HB hg); clear HB; have HB := n0_; have BK515 := n1_; have GW515 := n2_; have GE515 := n3_; clear n0_ n1_ n2_ n3_; clear hb hbox hg; obtain ⟨hcz8_0, hcz8_1, hfz8_0, hfz8_1⟩ := blk2 BK515))
       go_ret2
       exact ⟨by first | rfl | (simp [errW_none, errW_some] <;> rfl) | (simp [*, errW_none, errW_some] <;> rfl), by repeat (first | (with_reducible first | exact HB.out | apply below_alloc | apply pw_below_drewN | apply below_drew1 | refine below_set ?_ GE515.out) | exact HB.out)⟩
      ·rw [if_neg c6] at H
       have c6b0 : (((rd_T42 l0 x10_1).f0).toList == a1.toList) = false := beq_eq_false_iff_ne.mpr c6
       have c6b1 : (((rd_T42 l0 x10_1).f0).toList != a1.toList) = true := bne_iff_ne.mpr c6
       have H' := Aside0.mk H
       clear H
       have p514 : 0 ≤ (x10_1 : Int) := of_decide_eq_true (by first | (with_reducible assumption) | assumption)
       have q514 : x10_1 < (l0.length : Int) := of_decide_eq_true (by first | (with_reducible assumption) | assumption)
       obtain ⟨ad514, e514, hx514_0, hx514_1⟩ := at_T42 HR0.out x10_1 p514 q514
       cases e514
       replace hx514_0 := (HB.out.cell (World.block_lt_of_cell? w _ hx514_0)).trans hx514_0
       replace hx514_1 := (HB.out.cell (World.block_lt_of_cell? w _ hx514_1)).trans hx514_1
       replace p514 := eq_true p514
       replace q514 := eq_true q514
       go_wp2_with (first | ((with_reducible refine gate_dst (N := 7) rfl ?_); refine box_event ?hg (N := 7) ?hd (cs := #[.string (⟨#[]⟩ : ByteArray), .string (⟨#[]⟩ : ByteArray)]) (t := 42) ?hr ?_; (case hd => rfl); (case hg => rfl); (case hr => go_simp); intro gb515 hg w9 hbox hb; have n0_ := Aside0.mk (below_step (qB HB) hb); have n1_ := Aside0.mk (hbox); have n2_ := Aside0.mk (qG HB hg); have n3_ := Aside0.mk (qG HB hg); clear HB; have HB := n0_; have BK515 := n1_; have GW515 := n2_; have GE515 := n3_; clear n0_ n1_ n2_ n3_; clear hb hbox hg; obtain ⟨hcz10_0, hcz10_1, hfz10_0, hfz10_1⟩ := blk2 BK515))
       go_roundg k1
       case measure => have := HK1.out; omega
       case rel => exact ⟨(wrap64 (x10_1 + 1)), (by first | rfl | (simp; done) | (simp [*]; done)), H', ⟨by have := HK1.out; omega⟩, ⟨by repeat (first | (with_reducible first | exact HB.out | apply below_alloc | apply pw_below_drewN | apply below_drew1 | refine below_set ?_ GE515.out) | exact HB.out)⟩⟩
     ·rw [if_neg c5] at H
      exact absurd H (by simp)
    ·rw [if_neg c4] at H
     exact absurd H (by simp)
   ·rw [if_neg c3] at H
    have c3b0 : decide (x10_1 < (l0.length : Int)) = false := decide_eq_false c3
    clear c3
    simp only [Option.some.injEq, Prod.mk.injEq] at H
    obtain ⟨rfl, rfl⟩ := H
    go_wp2
    go_ret2
    exact ⟨by first | rfl | (simp [errW_none, errW_some] <;> rfl) | (simp [*, errW_none, errW_some] <;> rfl), by repeat (first | (with_reducible first | exact HB.out | apply below_alloc | apply pw_below_drewN | apply below_drew1) | exact HB.out)⟩

end Go.Proofs.YtpjpnppoejnafaaDoor.G

/- PLabOk -/
/-
  Labels that are right; the value of a key.
-/
namespace Go.Proofs.YtpjpnppoejnafaaDoor.G
open Go.RowKit Go.Proofs.YtpjpnppoejnafaaDoorW.PrintWords Go.Proofs.YtpjpnppoejnafaaDoorW.PrintLast Go.Proofs.YtpjpnppoejnafaaDoorW.PrintMore
set_option linter.unusedVariables false
set_option linter.unusedSimpArgs false
def wfILab (x : ILab) : Prop := x.f0.size ≤ 9223372036854775807 ∧ x.f1.size ≤ 9223372036854775807
def wfILabs (xs : List ILab) : Prop := xs.length ≤ 9223372036854775807 ∧ ∀ x ∈ xs, wfILab x
theorem wfILabs_at {xs : List ILab} (h : wfILabs xs) {i : Nat} (hi : i < xs.length) : wfILab (rd_T42 xs (i : Int)) := by rw [rdIL hi]; exact h.2 _ (List.getElem_mem hi)
def labOkAt (xs : List ILab) (i : Nat) : Bool := nameB (rd_T42 xs i).f0 && (nameB (rd_T42 xs i).f1 && (i == 0 || Op.bytesLess (rd_T42 xs ((i - 1 : Nat) : Int)).f0.toList (rd_T42 xs i).f0.toList))
def labsB (xs : List ILab) : Bool := allN xs.length (labOkAt xs) && decide ((xs.length : Int) ≤ 8)
theorem specLabelsOk_ev (xs : List ILab) (h : wfILabs xs) : Ev (fun k => spec_LabelsOk.f k xs) (labsB xs) := by
  unfold spec_LabelsOk.f labsB
  refine loop_all (g := fun k i => spec_LabelsOk.l0 k xs i) xs.length _ _ ?_ ?_ ?_
  · intro i hi hok r hr
    obtain ⟨w0, w1⟩ := wfILabs_at h hi
    simp only [labOkAt, Bool.and_eq_true] at hok
    refine Ev.step (fun k => by rw [spec_LabelsOk.l0]) ?_
    simp only [wsucc hi h.1]
    refine ev_if_pos (by omega) (ev_if_pos (by omega) (Ev.bind (specNameOk_ev _ w0) (ev_if_pos hok.1 (Ev.bind (specNameOk_ev _ w1) (ev_if_pos hok.2.1 (ev_if (fun c => ?_) (fun c => hr)))))))
    have hl : Op.bytesLess (rd_T42 xs ((i - 1 : Nat) : Int)).f0.toList (rd_T42 xs i).f0.toList = true := by
      have := hok.2.2; simp only [Bool.or_eq_true, beq_iff_eq] at this; rcases this with h0 | h0
      · omega
      · exact h0
    simp only [wpred (by omega : 0 < i) hi h.1]
    exact ev_if_pos (by omega) (ev_if_pos (by omega) (ev_if_pos hl hr))
  · intro i hi hok
    obtain ⟨w0, w1⟩ := wfILabs_at h hi
    refine Ev.step (fun k => by rw [spec_LabelsOk.l0]) ?_
    refine ev_if_pos (by omega) (ev_if_pos (by omega) (Ev.bind (specNameOk_ev _ w0) (ev_if (fun c0 => Ev.bind (specNameOk_ev _ w1) (ev_if (fun c1 => ?_) (fun _ => Ev.now _))) (fun _ => Ev.now _))))
    simp only [labOkAt, c0, c1, Bool.true_and, Bool.or_eq_false_iff, beq_eq_false_iff_ne] at hok
    simp only [wpred (by omega : 0 < i) hi h.1]
    exact ev_if_pos (by omega) (ev_if_pos (by omega) (ev_if_pos (by omega) (ev_if_neg (by rw [hok.2]; simp) (Ev.now _))))
  · exact Ev.step (fun k => by rw [spec_LabelsOk.l0]) (ev_if_neg (by omega) (Ev.now _))
theorem implLabelsOk_ev (xs : List ILab) (h : wfILabs xs) : Ev (fun k => impl_LabelsOk.f k xs) (labsB xs) := by
  unfold impl_LabelsOk.f labsB
  refine loop_all (g := fun k i => impl_LabelsOk.l0 k xs xs xs.length i) xs.length _ _ ?_ ?_ ?_
  · intro i hi hok r hr
    obtain ⟨w0, w1⟩ := wfILabs_at h hi
    simp only [labOkAt, Bool.and_eq_true] at hok
    refine Ev.step (fun k => by rw [impl_LabelsOk.l0]) ?_
    simp only [wsucc hi h.1]
    refine ev_if_pos (by omega) (ev_if_pos (by omega) (ev_if_pos (by omega) (Ev.bind (implNameOk_ev _ w0) (ev_if_pos hok.1 (Ev.bind (implNameOk_ev _ w1) (ev_if_pos hok.2.1 (ev_if (fun c => ?_) (fun c => hr))))))))
    have hl : Op.bytesLess (rd_T42 xs ((i - 1 : Nat) : Int)).f0.toList (rd_T42 xs i).f0.toList = true := by
      have := hok.2.2; simp only [Bool.or_eq_true, beq_iff_eq] at this; rcases this with h0 | h0
      · omega
      · exact h0
    simp only [wpred (by omega : 0 < i) hi h.1]
    exact ev_if_pos (by omega) (ev_if_pos (by omega) (ev_if_pos hl hr))
  · intro i hi hok
    obtain ⟨w0, w1⟩ := wfILabs_at h hi
    refine Ev.step (fun k => by rw [impl_LabelsOk.l0]) ?_
    refine ev_if_pos (by omega) (ev_if_pos (by omega) (ev_if_pos (by omega) (Ev.bind (implNameOk_ev _ w0) (ev_if (fun c0 => Ev.bind (implNameOk_ev _ w1) (ev_if (fun c1 => ?_) (fun _ => Ev.now _))) (fun _ => Ev.now _)))))
    simp only [labOkAt, c0, c1, Bool.true_and, Bool.or_eq_false_iff, beq_eq_false_iff_ne] at hok
    simp only [wpred (by omega : 0 < i) hi h.1]
    exact ev_if_pos (by omega) (ev_if_pos (by omega) (ev_if_pos (by omega) (ev_if_neg (by rw [hok.2]; simp) (Ev.now _))))
  · exact Ev.step (fun k => by rw [impl_LabelsOk.l0]) (ev_if_neg (by omega) (Ev.now _))
def labGet (xs : List ILab) (key : ByteArray) : ByteArray × Bool := ((List.range xs.length).find? (fun i : Nat => decide ((rd_T42 xs i).f0.toList = key.toList))).elim (⟨#[]⟩, false) (fun i : Nat => ((rd_T42 xs i).f1, true))
theorem specLabelGet_ev (xs : List ILab) (key : ByteArray) (h : xs.length ≤ 9223372036854775807) : Ev (fun k => spec_LabelGet.f k xs key) (labGet xs key) := by
  unfold spec_LabelGet.f labGet
  refine loop_find (g := fun k i => spec_LabelGet.l0 k xs key i) xs.length _ _ _ ?_ ?_ ?_
  · intro i hi hok r hr
    refine Ev.step (fun k => by rw [spec_LabelGet.l0]) ?_
    simp only [wsucc hi h]
    exact ev_if_pos (by omega) (ev_if_pos (by omega) (ev_if_neg (of_decide_eq_false hok) hr))
  · intro i hi hok
    exact Ev.step (fun k => by rw [spec_LabelGet.l0]) (ev_if_pos (by omega) (ev_if_pos (by omega) (ev_if_pos (of_decide_eq_true hok) (Ev.now _))))
  · exact Ev.step (fun k => by rw [spec_LabelGet.l0]) (ev_if_neg (by omega) (Ev.now _))
theorem implLabelGet_ev (xs : List ILab) (key : ByteArray) (h : xs.length ≤ 9223372036854775807) : Ev (fun k => impl_LabelGet.f k xs key) (labGet xs key) := by
  unfold impl_LabelGet.f labGet
  refine loop_find (g := fun k i => impl_LabelGet.l0 k key xs xs.length i) xs.length _ _ _ ?_ ?_ ?_
  · intro i hi hok r hr
    refine Ev.step (fun k => by rw [impl_LabelGet.l0]) ?_
    simp only [wsucc hi h]
    exact ev_if_pos (by omega) (ev_if_pos (by omega) (ev_if_pos (by omega) (ev_if_neg (of_decide_eq_false hok) hr)))
  · intro i hi hok
    exact Ev.step (fun k => by rw [impl_LabelGet.l0]) (ev_if_pos (by omega) (ev_if_pos (by omega) (ev_if_pos (by omega) (ev_if_pos (of_decide_eq_true hok) (Ev.now _)))))
  · exact Ev.step (fun k => by rw [impl_LabelGet.l0]) (ev_if_neg (by omega) (Ev.now _))
end Go.Proofs.YtpjpnppoejnafaaDoor.G

/- G56 -/
-- Laid by wip/g/gprint.py out of the translation, by the kit's print program. Lean checks it.
namespace Go.Proofs.YtpjpnppoejnafaaDoor.G
open Go.RowKit Go.Proofs.YtpjpnppoejnafaaDoorW.PrintWords Go.Proofs.YtpjpnppoejnafaaDoorW.PrintLast Go.Proofs.YtpjpnppoejnafaaDoorW.PrintMore
attribute [local go_sem] max2_int min2_int max_two min_two max_three min_three max_four min_four   -- for this text's walks alone
set_option linter.unusedVariables false
set_option linter.unusedSimpArgs false

/-! ### spec_l1Labels: function 56 -/
def spec_l1Labels.f (l0 : List (S42)) : Option ((List (S42))) := (some (([] : List (S42)) : List (S42))).bind fun y410 => (if y410.length + l0.length < 4398046511104 then (some (y410 ++ l0)) else (none))
set_option maxHeartbeats 8000000 in
set_option maxRecDepth 100000 in
theorem spec_l1Labels.calls (A0 : Option Addr) (c0 : Nat) (l0 : List (S42)) (r : List (S42)) (w : World) (hr0 : Kd.C k42 w A0 l0.length l0) (hc0 : l0.length ≤ c0) (h : spec_l1Labels.f l0 = some r) :
  Calls Tryd.prog 56 #[.slice A0 l0.length c0] w fun e w' => ∃ v0_ : Value, e = .returned (v0_) ∧ Kd.R k42 42 w' w.heap.size (fun _ => True) v0_ r ∧ Below w.heap.size w w' := by
 have HR0 := Aside0.mk hr0
 have HC0 := Aside0.mk hc0
 clear hr0 hc0
 have HB := Aside0.mk (Below.refl w.heap.size w)
 unfold spec_l1Labels.f at h; have H := h
 clear h
 obtain ⟨y410, hy410⟩ : ∃ y_ : List (S42), y_ = (([] : List (S42))) := ⟨_, rfl⟩
 replace H : (if y410.length + l0.length < 4398046511104 then (some (y410 ++ l0)) else (none)) = some r := by first | (rw [hy410]; with_reducible exact H) | (have H2_ := (Option.bind_some _ _).symm.trans H; rw [hy410]; with_reducible exact H2_) | (have H2_ := (Option.bind_some _ _).symm.trans H; with_reducible exact H2_) | with_reducible exact H | (rw [hy410]; exact H) | exact H
 have Ny410 := Aside0.mk hy410
 clear hy410
 by_cases c2 : y410.length + l0.length < 4398046511104
 ·rw [if_pos c2] at H
  have LMc2 := Aside0.mk c2
  clear c2
  obtain ⟨y413, hy413⟩ : ∃ y_ : List (S42), y_ = (y410 ++ l0) := ⟨_, rfl⟩
  replace H : (some y413) = some r := by first | (rw [hy413]; with_reducible exact H) | (have H2_ := (Option.bind_some _ _).symm.trans H; rw [hy413]; with_reducible exact H2_) | (have H2_ := (Option.bind_some _ _).symm.trans H; with_reducible exact H2_) | with_reducible exact H | (rw [hy413]; exact H) | exact H
  have Ny413 := Aside0.mk hy413
  clear hy413
  obtain rfl := Option.some.inj H
  go_enter Tryd.func56, Tryd.ntmps56
  go_wp2_with (first | ((with_reducible refine gate_dst (N := 3) rfl ?_); refine Kd.R_lit k42 _ 42 ?hg (N := 3) ?hd (xs := ([] : List (S42))) (inner := []) (ok := fun _ => True) (okp := fun _ => True) ?hr ?hp (fun _ hk => hk) trivial (Below.refl _ _) (Nat.le_refl _) (by simp) ?_; (case hd => rfl); (case hg => rfl); (case hr => go_simp); (case hp => exact (Reps.none _ _)); intro v411 w3 ho4 hb hg_ hnew_; clear hg_ hnew_; (first | rw [← Ny410.out] at ho4 | (simp only [Int.reduceToNat] at ho4; rw [← Ny410.out] at ho4)); have n0_ := Aside0.mk (Kd.R_lower ho4 (below_size (qB HB))); have n1_ := Aside0.mk (below_step (qB HB) hb); clear HB; have HO412 := n0_; have HB := n1_; clear n0_ n1_; clear hb ho4) | ((with_reducible refine gate_builtin (b := .append) (xs := #[.tmp 3, .tmp 4]) rfl ?_); at_builtin; refine Kd.R_append_rows k42 (w0 := w) w.heap.size rfl (.tmp 3) (.tmp 4) 22 42 (.agg #[(.string ⟨#[]⟩), (.string ⟨#[]⟩)]) 32 rfl Tryd.underlying22 info42 rfl (by decide) (by omega) v411 y410 l0 _ _ _ (fun _ => True) (fun _ => False) rfl rfl ?aO ?aR (fun _ _ h => h) (fun _ h => h.elim) ?aF ?aB ?aS ?aL ?_; (case aR => exact qC HR0 HB); (case aB => exact (qB HB)); (case aF => exact (fun _ _ => trivial)); (case aO => exact (by (with_reducible repeat (first | apply Kd.R_alloc | apply Kd.R_drewN | apply Kd.R_drew)); exact HO412.out)); (case aS => exact (below_size (qB HB))); (case aL => have := LMc2.out; omega); intro v414 w5 ho hb hg hat; rw [← Ny413.out] at ho; have n0_ := Aside0.mk (hb); have n1_ := Aside0.mk (ho); clear HB; clear HO412; have HB := n0_; have HO415 := n1_; clear n0_ n1_; clear ho hb hg hat))
  go_ret
  exact ⟨_, by first | rfl | (simp [errW_none, errW_some] <;> rfl) | (simp [*, errW_none, errW_some] <;> rfl), by (with_reducible repeat (first | apply Kd.R_alloc | apply Kd.R_drewN | apply Kd.R_drew)); exact HO415.out, by repeat (first | (with_reducible first | exact HB.out | apply below_alloc | apply pw_below_drewN | apply below_drew1) | exact HB.out)⟩
 ·rw [if_neg c2] at H
  exact absurd H (by simp)

end Go.Proofs.YtpjpnppoejnafaaDoor.G

/- G20 -/
-- Laid by wip/g/gprint.py out of the translation, by the kit's print program. Lean checks it.
namespace Go.Proofs.YtpjpnppoejnafaaDoor.G
open Go.RowKit Go.Proofs.YtpjpnppoejnafaaDoorW.PrintWords Go.Proofs.YtpjpnppoejnafaaDoorW.PrintLast Go.Proofs.YtpjpnppoejnafaaDoorW.PrintMore
attribute [local go_sem] max2_int min2_int max_two min_two max_three min_three max_four min_four   -- for this text's walks alone
set_option linter.unusedVariables false
set_option linter.unusedSimpArgs false

/-! ### spec_LabelSet: function 20 -/
mutual
def spec_LabelSet.j0 : Nat → List (S42) → ByteArray → ByteArray → Bool → Option ((List (S42)) × Bool)
 | 0, _, _, _, _ => none
 | k + 1, x0, x1, x2, x40 => if x40 = true then ((spec_l1Labels.f x0).bind fun t421 => (some (t421, false))) else (spec_LabelSet.l0 k x0 x1 x2 (([] : List (S42))) false 0)
def spec_LabelSet.l0 : Nat → List (S42) → ByteArray → ByteArray → List (S42) → Bool → Int → Option ((List (S42)) × Bool)
 | 0, _, _, _, _, _, _ => none
 | k + 1, x0, x1, x2, x10, x11, x12 => if x12 < (x0.length : Int) then (if x11 = true then (spec_LabelSet.j2 k x0 x1 x2 x10 x11 x12 false) else (if 0 ≤ x12 then (spec_LabelSet.j2 k x0 x1 x2 x10 x11 x12 (!(Op.bytesLess (((rd_T42 x0 x12).f0).toList) x1.toList))) else (none))) else (if x11 = true then (some (x10, true)) else (if x10.length < 4398046511104 then (some ((x10 ++ [(⟨x1, x2⟩ : S42)]), true)) else (none)))
def spec_LabelSet.j2 : Nat → List (S42) → ByteArray → ByteArray → List (S42) → Bool → Int → Bool → Option ((List (S42)) × Bool)
 | 0, _, _, _, _, _, _, _ => none
 | k + 1, x0, x1, x2, x10, x11, x12, x60 => if x60 = true then (if x10.length < 4398046511104 then ((some (x10 ++ [(⟨x1, x2⟩ : S42)] : List (S42))).bind fun y431 => (if 0 ≤ x12 then (if x12 < (x0.length : Int) then (if ((rd_T42 x0 x12).f0).toList = x1.toList then (spec_LabelSet.l0 k x0 x1 x2 y431 true (wrap64 (x12 + 1))) else (if y431.length < 4398046511104 then (spec_LabelSet.l0 k x0 x1 x2 (y431 ++ [(⟨(rd_T42 x0 x12).f0, (rd_T42 x0 x12).f1⟩ : S42)]) true (wrap64 (x12 + 1))) else (none))) else (none)) else (none))) else (none)) else (if 0 ≤ x12 then (if x12 < (x0.length : Int) then (if ((rd_T42 x0 x12).f0).toList = x1.toList then (spec_LabelSet.l0 k x0 x1 x2 x10 x11 (wrap64 (x12 + 1))) else (if x10.length < 4398046511104 then (spec_LabelSet.l0 k x0 x1 x2 (x10 ++ [(⟨(rd_T42 x0 x12).f0, (rd_T42 x0 x12).f1⟩ : S42)]) x11 (wrap64 (x12 + 1))) else (none))) else (none)) else (none))
end
def spec_LabelSet.f (k : Nat) (l0 : List (S42)) (a1 : ByteArray) (a2 : ByteArray) : Option ((List (S42)) × Bool) := (spec_LabelGet.f k l0 a1).bind fun bt416 => ((spec_LabelsOk.f k l0).bind fun t418 => (if t418 = true then ((spec_NameOk.f k a1).bind fun t419 => (if t419 = true then ((spec_NameOk.f k a2).bind fun t420 => (if t420 = true then (if bt416.2 = true then (spec_LabelSet.j0 k l0 a1 a2 false) else (spec_LabelSet.j0 k l0 a1 a2 ((l0.length : Int) == 8))) else (spec_LabelSet.j0 k l0 a1 a2 true))) else (spec_LabelSet.j0 k l0 a1 a2 true))) else (spec_LabelSet.j0 k l0 a1 a2 true)))
set_option maxHeartbeats 8000000 in
set_option maxRecDepth 100000 in
theorem spec_LabelSet.calls (k : Nat) (A0 : Option Addr) (c0 : Nat) (l0 : List (S42)) (a1 : ByteArray) (a2 : ByteArray) (r1 : List (S42)) (r2 : Bool) (w : World) (hr0 : Kd.C k42 w A0 l0.length l0) (hc0 : l0.length ≤ c0) (h : spec_LabelSet.f k l0 a1 a2 = some (r1, r2)) :
  Calls Tryd.prog 20 #[.slice A0 l0.length c0, .string a1, .string a2] w fun e w' => ∃ v0_ : Value, e = .returned (.tuple #[v0_, .bool r2]) ∧ Kd.R k42 42 w' w.heap.size (fun _ => True) v0_ r1 ∧ Below w.heap.size w w' := by
 have hu42 := Tryd.underlying42
 have HR0 := Aside0.mk hr0
 have HC0 := Aside0.mk hc0
 clear hr0 hc0
 have HB := Aside0.mk (Below.refl w.heap.size w)
 unfold spec_LabelSet.f at h; have H := h
 clear h
 replace H := Option.bind_eq_some_iff.mp H
 obtain ⟨⟨t416, t417⟩, A40, H⟩ := H
 try dsimp only at H
 have A4 := Aside0.mk A40
 clear A40
 have HC5 := Aside0.mk H
 clear H
 go_enter Tryd.func20, Tryd.ntmps20
 go_upto_region 2 with (first | ((with_reducible refine gate_callee (f := 54) rfl ?_); refine goesL_ (some 16) rfl rfl Tryd.func54 (by kernel_rfl) rfl #[.slice A0 l0.length c0, .string a1] rfl (by (try simp only [List.map_toArray, List.map_cons, List.map_nil]); first | done | rfl | (simp only [List.length_drop, List.length_take]; rfl)) ?_; (with_reducible refine (spec_LabelGet.calls k _ _ l0 a1 t416 t417 _ (qC0 HR0) HC0.out A4.out).mono ?_); rintro e w' ⟨rfl, ⟨nd, rfl⟩⟩; refine ⟨_, rfl, ?_⟩))
 (try simp only [Act.put, List.setIfInBounds_toArray, List.set_cons_zero, List.set_cons_succ])
 go_cut [40] (fun v40 wc => ∃ (kq : Nat) (x40_4 : Bool), v40 = .bool x40_4 ∧ Aside0 (spec_LabelSet.j0 kq l0 a1 a2 x40_4 = some (r1, r2)) ∧ Aside0 (kq ≤ k) ∧ Aside0 (Below w.heap.size w wc))
 case first =>
  have H := HC5.out
  clear HC5
  replace H := Option.bind_eq_some_iff.mp H
  obtain ⟨t418, A60, H⟩ := H
  try dsimp only at H
  have A6 := Aside0.mk A60
  clear A60
  by_cases c7 : t418 = true
  ·subst c7
   have H1 : ((spec_NameOk.f k a1).bind fun t419 => (if t419 = true then ((spec_NameOk.f k a2).bind fun t420 => (if t420 = true then (if t417 = true then (spec_LabelSet.j0 k l0 a1 a2 false) else (spec_LabelSet.j0 k l0 a1 a2 ((l0.length : Int) == 8))) else (spec_LabelSet.j0 k l0 a1 a2 true))) else (spec_LabelSet.j0 k l0 a1 a2 true))) = some (r1, r2) := by rw [if_pos rfl] at H; exact H
   clear H
   have H := H1
   clear H1
   replace H := Option.bind_eq_some_iff.mp H
   obtain ⟨t419, A80, H⟩ := H
   try dsimp only at H
   have A8 := Aside0.mk A80
   clear A80
   by_cases c9 : t419 = true
   ·subst c9
    have H1 : ((spec_NameOk.f k a2).bind fun t420 => (if t420 = true then (if t417 = true then (spec_LabelSet.j0 k l0 a1 a2 false) else (spec_LabelSet.j0 k l0 a1 a2 ((l0.length : Int) == 8))) else (spec_LabelSet.j0 k l0 a1 a2 true))) = some (r1, r2) := by rw [if_pos rfl] at H; exact H
    clear H
    have H := H1
    clear H1
    replace H := Option.bind_eq_some_iff.mp H
    obtain ⟨t420, A100, H⟩ := H
    try dsimp only at H
    have A10 := Aside0.mk A100
    clear A100
    by_cases c11 : t420 = true
    ·subst c11
     have H1 : (if t417 = true then (spec_LabelSet.j0 k l0 a1 a2 false) else (spec_LabelSet.j0 k l0 a1 a2 ((l0.length : Int) == 8))) = some (r1, r2) := by rw [if_pos rfl] at H; exact H
     clear H
     have H := H1
     clear H1
     by_cases c12 : t417 = true
     ·subst c12
      have H1 : (spec_LabelSet.j0 k l0 a1 a2 false) = some (r1, r2) := by rw [if_pos rfl] at H; exact H
      clear H
      have H := H1
      clear H1
      have H' := Aside0.mk H
      clear H
      go_wp2_with (first | ((with_reducible refine gate_callee (f := 35) rfl ?_); refine goesL_ (some 20) rfl rfl Tryd.func35 (by kernel_rfl) rfl #[.slice A0 l0.length c0] rfl (by (try simp only [List.map_toArray, List.map_cons, List.map_nil]); first | done | rfl | (simp only [List.length_drop, List.length_take]; rfl)) ?_; (with_reducible refine (spec_LabelsOk.calls k _ _ l0 true _ (qC HR0 HB) HC0.out A6.out).mono ?_); rintro e w13 ⟨rfl, hb⟩; refine ⟨_, rfl, ?_⟩; have n0_ := Aside0.mk (below_step (qB HB) hb); clear HB; have HB := n0_; clear n0_; (try clear hb); (try clear hb2); (try clear hk); (try clear hi)) | (go_at_call 55; (with_reducible refine (spec_NameOk.calls k a1 true _ A8.out).mono ?_); rintro e w' ⟨rfl, ⟨nd, rfl⟩⟩) | (go_at_call 55; (with_reducible refine (spec_NameOk.calls k a2 true _ A10.out).mono ?_); rintro e w' ⟨rfl, ⟨nd, rfl⟩⟩))
      go_meet
      case rel => exact ⟨_, (false), (by first | rfl | (simp; done) | (simp [*]; done)), H', ⟨by first | omega | exact Nat.le_refl _⟩, ⟨qB HB⟩⟩
     ·replace c12 := Bool.eq_false_iff.mpr c12
      subst c12
      have H1 : (spec_LabelSet.j0 k l0 a1 a2 ((l0.length : Int) == 8)) = some (r1, r2) := by rw [if_neg (show ¬ (false = true) by decide)] at H; exact H
      clear H
      have H := H1
      clear H1
      have H' := Aside0.mk H
      clear H
      go_wp2_with (first | ((with_reducible refine gate_callee (f := 35) rfl ?_); refine goesL_ (some 20) rfl rfl Tryd.func35 (by kernel_rfl) rfl #[.slice A0 l0.length c0] rfl (by (try simp only [List.map_toArray, List.map_cons, List.map_nil]); first | done | rfl | (simp only [List.length_drop, List.length_take]; rfl)) ?_; (with_reducible refine (spec_LabelsOk.calls k _ _ l0 true _ (qC HR0 HB) HC0.out A6.out).mono ?_); rintro e w14 ⟨rfl, hb⟩; refine ⟨_, rfl, ?_⟩; have n0_ := Aside0.mk (below_step (qB HB) hb); clear HB; have HB := n0_; clear n0_; (try clear hb); (try clear hb2); (try clear hk); (try clear hi)) | (go_at_call 55; (with_reducible refine (spec_NameOk.calls k a1 true _ A8.out).mono ?_); rintro e w' ⟨rfl, ⟨nd, rfl⟩⟩) | (go_at_call 55; (with_reducible refine (spec_NameOk.calls k a2 true _ A10.out).mono ?_); rintro e w' ⟨rfl, ⟨nd, rfl⟩⟩))
      go_meet
      case rel => exact ⟨_, (((l0.length : Int) == 8)), (by first | rfl | (simp; done) | (simp [*]; done)), H', ⟨by first | omega | exact Nat.le_refl _⟩, ⟨qB HB⟩⟩
    ·replace c11 := Bool.eq_false_iff.mpr c11
     subst c11
     have H1 : (spec_LabelSet.j0 k l0 a1 a2 true) = some (r1, r2) := by rw [if_neg (show ¬ (false = true) by decide)] at H; exact H
     clear H
     have H := H1
     clear H1
     have H' := Aside0.mk H
     clear H
     go_wp2_with (first | ((with_reducible refine gate_callee (f := 35) rfl ?_); refine goesL_ (some 20) rfl rfl Tryd.func35 (by kernel_rfl) rfl #[.slice A0 l0.length c0] rfl (by (try simp only [List.map_toArray, List.map_cons, List.map_nil]); first | done | rfl | (simp only [List.length_drop, List.length_take]; rfl)) ?_; (with_reducible refine (spec_LabelsOk.calls k _ _ l0 true _ (qC HR0 HB) HC0.out A6.out).mono ?_); rintro e w15 ⟨rfl, hb⟩; refine ⟨_, rfl, ?_⟩; have n0_ := Aside0.mk (below_step (qB HB) hb); clear HB; have HB := n0_; clear n0_; (try clear hb); (try clear hb2); (try clear hk); (try clear hi)) | (go_at_call 55; (with_reducible refine (spec_NameOk.calls k a1 true _ A8.out).mono ?_); rintro e w' ⟨rfl, ⟨nd, rfl⟩⟩) | (go_at_call 55; (with_reducible refine (spec_NameOk.calls k a2 false _ A10.out).mono ?_); rintro e w' ⟨rfl, ⟨nd, rfl⟩⟩))
     go_meet
     case rel => exact ⟨_, (true), (by first | rfl | (simp; done) | (simp [*]; done)), H', ⟨by first | omega | exact Nat.le_refl _⟩, ⟨qB HB⟩⟩
   ·replace c9 := Bool.eq_false_iff.mpr c9
    subst c9
    have H1 : (spec_LabelSet.j0 k l0 a1 a2 true) = some (r1, r2) := by rw [if_neg (show ¬ (false = true) by decide)] at H; exact H
    clear H
    have H := H1
    clear H1
    have H' := Aside0.mk H
    clear H
    go_wp2_with (first | ((with_reducible refine gate_callee (f := 35) rfl ?_); refine goesL_ (some 20) rfl rfl Tryd.func35 (by kernel_rfl) rfl #[.slice A0 l0.length c0] rfl (by (try simp only [List.map_toArray, List.map_cons, List.map_nil]); first | done | rfl | (simp only [List.length_drop, List.length_take]; rfl)) ?_; (with_reducible refine (spec_LabelsOk.calls k _ _ l0 true _ (qC HR0 HB) HC0.out A6.out).mono ?_); rintro e w16 ⟨rfl, hb⟩; refine ⟨_, rfl, ?_⟩; have n0_ := Aside0.mk (below_step (qB HB) hb); clear HB; have HB := n0_; clear n0_; (try clear hb); (try clear hb2); (try clear hk); (try clear hi)) | (go_at_call 55; (with_reducible refine (spec_NameOk.calls k a1 false _ A8.out).mono ?_); rintro e w' ⟨rfl, ⟨nd, rfl⟩⟩))
    go_meet
    case rel => exact ⟨_, (true), (by first | rfl | (simp; done) | (simp [*]; done)), H', ⟨by first | omega | exact Nat.le_refl _⟩, ⟨qB HB⟩⟩
  ·replace c7 := Bool.eq_false_iff.mpr c7
   subst c7
   have H1 : (spec_LabelSet.j0 k l0 a1 a2 true) = some (r1, r2) := by rw [if_neg (show ¬ (false = true) by decide)] at H; exact H
   clear H
   have H := H1
   clear H1
   have H' := Aside0.mk H
   clear H
   go_wp2_with (first | ((with_reducible refine gate_callee (f := 35) rfl ?_); refine goesL_ (some 20) rfl rfl Tryd.func35 (by kernel_rfl) rfl #[.slice A0 l0.length c0] rfl (by (try simp only [List.map_toArray, List.map_cons, List.map_nil]); first | done | rfl | (simp only [List.length_drop, List.length_take]; rfl)) ?_; (with_reducible refine (spec_LabelsOk.calls k _ _ l0 false _ (qC HR0 HB) HC0.out A6.out).mono ?_); rintro e w17 ⟨rfl, hb⟩; refine ⟨_, rfl, ?_⟩; have n0_ := Aside0.mk (below_step (qB HB) hb); clear HB; have HB := n0_; clear n0_; (try clear hb); (try clear hb2); (try clear hk); (try clear hi)))
   go_meet
   case rel => exact ⟨_, (true), (by first | rfl | (simp; done) | (simp [*]; done)), H', ⟨by first | omega | exact Nat.le_refl _⟩, ⟨qB HB⟩⟩
 case rest =>
  clear HC5
  try clear c1
  try clear c2
  try clear p2
  try clear c3
  try clear c5
  try clear c7
  try clear c9
  try clear c11
  try clear c12
  obtain ⟨kq, x40_4, rfl, HA, HJ4, HB⟩ := hcut
  cases kq with
  | zero => exact absurd HA.out (by simp [spec_LabelSet.j0])
  | succ kj4 =>
   have H := HA.out
   clear HA
   simp only [spec_LabelSet.j0] at H
   by_cases c18 : x40_4 = true
   ·subst c18
    have H1 : ((spec_l1Labels.f l0).bind fun t421 => (some (t421, false))) = some (r1, r2) := by rw [if_pos rfl] at H; exact H
    clear H
    have H := H1
    clear H1
    replace H := Option.bind_eq_some_iff.mp H
    obtain ⟨t421, A190, H⟩ := H
    try dsimp only at H
    have A19 := Aside0.mk A190
    clear A190
    simp only [Option.some.injEq, Prod.mk.injEq] at H
    obtain ⟨rfl, rfl⟩ := H
    go_wp2_with (first | ((with_reducible refine gate_callee (f := 56) rfl ?_); refine goesL_ (some 42) rfl rfl Tryd.func56 (by kernel_rfl) rfl #[.slice A0 l0.length c0] rfl (by (try simp only [List.map_toArray, List.map_cons, List.map_nil]); first | done | rfl | (simp only [List.length_drop, List.length_take]; rfl)) ?_; (with_reducible refine (spec_l1Labels.calls _ _ l0 t421 _ (qC HR0 HB) HC0.out A19.out).mono ?_); rintro e w20 ⟨v422, rfl, ho0, hb⟩; refine ⟨_, rfl, ?_⟩; have n0_ := Aside0.mk (Kd.R_lower ho0 (below_size (qB HB))); have n1_ := Aside0.mk (below_step (qB HB) hb); clear HB; have HO423 := n0_; have HB := n1_; clear n0_ n1_; (try clear hb); (try clear hb2); (try clear hk); (try clear hi); (try clear ho0)))
    go_ret2
    exact ⟨_, by first | rfl | (simp [errW_none, errW_some] <;> rfl) | (simp [*, errW_none, errW_some] <;> rfl), by (with_reducible repeat (first | apply Kd.R_alloc | apply Kd.R_drewN | apply Kd.R_drew)); exact HO423.out, by repeat (first | (with_reducible first | exact HB.out | apply below_alloc | apply pw_below_drewN | apply below_drew1) | exact HB.out)⟩
   ·replace c18 := Bool.eq_false_iff.mpr c18
    subst c18
    have H1 : (spec_LabelSet.l0 kj4 l0 a1 a2 (([] : List (S42))) false 0) = some (r1, r2) := by rw [if_neg (show ¬ (false = true) by decide)] at H; exact H
    clear H
    have H := H1
    clear H1
    obtain ⟨y424, hy424⟩ : ∃ y_ : List (S42), y_ = (([] : List (S42))) := ⟨_, rfl⟩
    replace H : (spec_LabelSet.l0 kj4 l0 a1 a2 y424 false 0) = some (r1, r2) := by first | (rw [hy424]; with_reducible exact H) | (have H2_ := (Option.bind_some _ _).symm.trans H; rw [hy424]; with_reducible exact H2_) | (have H2_ := (Option.bind_some _ _).symm.trans H; with_reducible exact H2_) | with_reducible exact H | (rw [hy424]; exact H) | exact H
    have Ny424 := Aside0.mk hy424
    clear hy424
    have H' := Aside0.mk H
    clear H
    go_wp2_with (first | ((with_reducible refine gate_dst (N := 43) rfl ?_); (try (refine gate_guard (by rfl) ?_; dsimp only)); refine Kd.R_lit k42 _ 42 ?hg (N := 43) ?hd (xs := ([] : List (S42))) (inner := []) (ok := fun _ => True) (okp := fun _ => True) ?hr ?hp (fun _ hk => hk) trivial (Below.refl _ _) (Nat.le_refl _) (by simp) ?_; (case hd => rfl); (case hg => rfl); (case hr => go_simp); (case hp => exact (Reps.none _ _)); intro v425 w21 ho22 hb hg_ hnew_; clear hg_ hnew_; (first | rw [← Ny424.out] at ho22 | (simp only [Int.reduceToNat] at ho22; rw [← Ny424.out] at ho22)); have n0_ := Aside0.mk (Kd.R_lower ho22 (below_size (qB HB))); have n1_ := Aside0.mk (below_step (qB HB) hb); clear HB; have HO426 := n0_; have HB := n1_; clear n0_ n1_; clear hb ho22))
    go_loopg [10, 11, 12] kj4 (fun kq v10 v11 v12 w' => ∃ (x10_2 : List (S42)) (x11_2 : Bool) (x12_2 : Int), v11 = .bool x11_2 ∧ v12 = .int .i64 x12_2 ∧ Aside0 (spec_LabelSet.l0 kq l0 a1 a2 x10_2 x11_2 x12_2 = some (r1, r2)) ∧ Aside0 (kq ≤ kj4) ∧ Aside0 (Kd.R k42 42 w' w.heap.size (fun _ => True) v10 x10_2) ∧ Aside0 (Below w.heap.size w w'))
    case atStart => exact ⟨(y424), (false), (0), (by first | rfl | (simp; done) | (simp [*]; done)), (by first | rfl | (simp; done) | (simp [*]; done)), H', ⟨Nat.le_refl _⟩, ⟨by (with_reducible repeat (first | apply Kd.R_alloc | apply Kd.R_drewN | apply Kd.R_drew)); exact HO426.out⟩, ⟨qB HB⟩⟩
    case round =>
     clear H'
     try clear c1
     try clear c2
     try clear p2
     try clear c3
     try clear c5
     try clear c7
     try clear c9
     try clear c11
     try clear c12
     try clear c18
     try clear c20
     try clear p2
     obtain ⟨x10_2, x11_2, x12_2, rfl, rfl, HA, HK2, HO_10, HB⟩ := hrel
     cases gk with
     | zero => exact absurd HA.out (by simp [spec_LabelSet.l0])
     | succ k2 =>
      have H := HA.out
      clear HA
      simp only [spec_LabelSet.l0] at H
      by_cases c23 : x12_2 < (l0.length : Int)
      ·rw [if_pos c23] at H
       have c23b0 : decide (x12_2 < (l0.length : Int)) = true := decide_eq_true c23
       clear c23
       have HC24 := Aside0.mk H
       clear H
       go_upto_region 9 with (fail)
       go_cut [60] (fun v60 wc => ∃ (kq : Nat) (x60_23 : Bool), v60 = .bool x60_23 ∧ Aside0 (spec_LabelSet.j2 kq l0 a1 a2 x10_2 x11_2 x12_2 x60_23 = some (r1, r2)) ∧ Aside0 (kq ≤ k2) ∧ Aside0 (Kd.R k42 42 wc w.heap.size (fun _ => True) u10 x10_2) ∧ Aside0 (Below w.heap.size w wc))
       case first =>
        have H := HC24.out
        clear HC24
        by_cases c25 : x11_2 = true
        ·subst c25
         have H1 : (spec_LabelSet.j2 k2 l0 a1 a2 x10_2 true x12_2 false) = some (r1, r2) := by rw [if_pos rfl] at H; exact H
         clear H
         have H := H1
         clear H1
         have H' := Aside0.mk H
         clear H
         go_wp2
         go_meet
         case rel => exact ⟨_, (false), (by first | rfl | (simp; done) | (simp [*]; done)), H', ⟨by have := HJ4.out; have := HK2.out; first | omega | exact Nat.le_refl _⟩, ⟨by (with_reducible repeat (first | apply Kd.R_alloc | apply Kd.R_drewN | apply Kd.R_drew)); exact HO_10.out⟩, ⟨qB HB⟩⟩
        ·replace c25 := Bool.eq_false_iff.mpr c25
         subst c25
         have H1 : (if 0 ≤ x12_2 then (spec_LabelSet.j2 k2 l0 a1 a2 x10_2 false x12_2 (!(Op.bytesLess (((rd_T42 l0 x12_2).f0).toList) a1.toList))) else (none)) = some (r1, r2) := by rw [if_neg (show ¬ (false = true) by decide)] at H; exact H
         clear H
         have H := H1
         clear H1
         by_cases c26 : 0 ≤ x12_2
         ·rw [if_pos c26] at H
          have c26b0 : decide (0 ≤ x12_2) = true := decide_eq_true c26
          clear c26
          (first | rw [c26b0] | (simp only [i64_w, i32_w]; rw [c26b0]) | skip)
          have H' := Aside0.mk H
          clear H
          have p430 : 0 ≤ (x12_2 : Int) := of_decide_eq_true (by first | (with_reducible assumption) | assumption)
          have q430 : x12_2 < (l0.length : Int) := of_decide_eq_true (by first | (with_reducible assumption) | assumption)
          obtain ⟨ad430, e430, hx430_0, hx430_1⟩ := at_T42 HR0.out x12_2 p430 q430
          cases e430
          replace hx430_0 := (HB.out.cell (World.block_lt_of_cell? w _ hx430_0)).trans hx430_0
          replace hx430_1 := (HB.out.cell (World.block_lt_of_cell? w _ hx430_1)).trans hx430_1
          replace p430 := eq_true p430
          replace q430 := eq_true q430
          go_wp2
          go_meet
          case rel => exact ⟨_, (!(Op.bytesLess (((rd_T42 l0 x12_2).f0).toList) a1.toList)), (by first | rfl | (simp; done) | (simp [*]; done)), H', ⟨by have := HJ4.out; have := HK2.out; first | omega | exact Nat.le_refl _⟩, ⟨by (with_reducible repeat (first | apply Kd.R_alloc | apply Kd.R_drewN | apply Kd.R_drew)); exact HO_10.out⟩, ⟨qB HB⟩⟩
         ·rw [if_neg c26] at H
          exact absurd H (by simp)
       case rest =>
        clear HC24
        try clear c1
        try clear c2
        try clear p2
        try clear c3
        try clear p4
        try clear q4
        try clear hx4
        try clear c5
        try clear c7
        try clear c9
        try clear c11
        try clear c12
        try clear c18
        try clear c20
        try clear c23
        try clear c23b0
        try clear c25
        try clear c26
        try clear c26b0
        try clear hx430_0
        try clear hx430_1
        try clear p2
        try clear p430
        try clear q430
        obtain ⟨kq, x60_23, rfl, HA, HJ23, HO_10, HB⟩ := hcut
        cases kq with
        | zero => exact absurd HA.out (by simp [spec_LabelSet.j2])
        | succ kj23 =>
         have H := HA.out
         clear HA
         simp only [spec_LabelSet.j2] at H
         by_cases c27 : x60_23 = true
         ·subst c27
          have H1 : (if x10_2.length < 4398046511104 then ((some (x10_2 ++ [(⟨a1, a2⟩ : S42)] : List (S42))).bind fun y431 => (if 0 ≤ x12_2 then (if x12_2 < (l0.length : Int) then (if ((rd_T42 l0 x12_2).f0).toList = a1.toList then (spec_LabelSet.l0 kj23 l0 a1 a2 y431 true (wrap64 (x12_2 + 1))) else (if y431.length < 4398046511104 then (spec_LabelSet.l0 kj23 l0 a1 a2 (y431 ++ [(⟨(rd_T42 l0 x12_2).f0, (rd_T42 l0 x12_2).f1⟩ : S42)]) true (wrap64 (x12_2 + 1))) else (none))) else (none)) else (none))) else (none)) = some (r1, r2) := by rw [if_pos rfl] at H; exact H
          clear H
          have H := H1
          clear H1
          by_cases c28 : x10_2.length < 4398046511104
          ·rw [if_pos c28] at H
           have LMc28 := Aside0.mk c28
           clear c28
           obtain ⟨y431, hy431⟩ : ∃ y_ : List (S42), y_ = (x10_2 ++ [(⟨a1, a2⟩ : S42)]) := ⟨_, rfl⟩
           replace H : (if 0 ≤ x12_2 then (if x12_2 < (l0.length : Int) then (if ((rd_T42 l0 x12_2).f0).toList = a1.toList then (spec_LabelSet.l0 kj23 l0 a1 a2 y431 true (wrap64 (x12_2 + 1))) else (if y431.length < 4398046511104 then (spec_LabelSet.l0 kj23 l0 a1 a2 (y431 ++ [(⟨(rd_T42 l0 x12_2).f0, (rd_T42 l0 x12_2).f1⟩ : S42)]) true (wrap64 (x12_2 + 1))) else (none))) else (none)) else (none)) = some (r1, r2) := by first | (rw [hy431]; with_reducible exact H) | (have H2_ := (Option.bind_some _ _).symm.trans H; rw [hy431]; with_reducible exact H2_) | (have H2_ := (Option.bind_some _ _).symm.trans H; with_reducible exact H2_) | with_reducible exact H | (rw [hy431]; exact H) | exact H
           have Ny431 := Aside0.mk hy431
           clear hy431
           by_cases c29 : 0 ≤ x12_2
           ·rw [if_pos c29] at H
            have c29b0 : decide (0 ≤ x12_2) = true := decide_eq_true c29
            clear c29
            by_cases c30 : x12_2 < (l0.length : Int)
            ·rw [if_pos c30] at H
             have c30b0 : decide (x12_2 < (l0.length : Int)) = true := decide_eq_true c30
             clear c30
             by_cases c31 : ((rd_T42 l0 x12_2).f0).toList = a1.toList
             ·rw [if_pos c31] at H
              have c31b0 : (((rd_T42 l0 x12_2).f0).toList == a1.toList) = true := beq_iff_eq.mpr c31
              have c31b1 : (((rd_T42 l0 x12_2).f0).toList != a1.toList) = false := bne_eq_false_iff_eq.mpr c31
              clear c31
              have H' := Aside0.mk H
              clear H
              go_wp2_with (first | ((with_reducible refine gate_builtin (b := .append) (xs := #[.tmp 61, .tmp 65]) rfl ?_); (try (refine gate_guard (by rfl) ?_; dsimp only)); at_builtin; refine Kd.R_append k42 (w0 := w) w.heap.size rfl (.tmp 61) (.tmp 65) 22 42 (.agg #[(.string ⟨#[]⟩), (.string ⟨#[]⟩)]) 32 rfl Tryd.underlying22 info42 rfl (by decide) (by omega) u10 x10_2 (⟨a1, a2⟩ : S42) [.string a1, .string a2] (fun _ => True) (fun _ => False) rfl rfl ?aP (fun _ hk => hk.elim) ?aF ?aO ?aB ?aS ?aL ?_; (case aP => exact k42_mkM _ _ _ (⟨a1, a2⟩ : S42)); (case aB => exact (qB HB)); (case aF => exact (fun _ _ => trivial)); (case aO => exact (by (with_reducible repeat (first | apply Kd.R_alloc | apply Kd.R_drewN | apply Kd.R_drew)); exact HO_10.out)); (case aS => exact (below_size (qB HB))); (case aL => have := LMc28.out; omega); intro v432 w32 ho hb hg hat; rw [← Ny431.out] at ho; have n0_ := Aside0.mk (hb); have n1_ := Aside0.mk (ho); clear HB; clear HO_10; have HB := n0_; have HO433 := n1_; clear n0_ n1_; clear ho hb hg hat; have p434 : 0 ≤ (x12_2 : Int) := of_decide_eq_true (by first | (with_reducible assumption) | assumption); have q434 : x12_2 < (l0.length : Int) := of_decide_eq_true (by first | (with_reducible assumption) | assumption); obtain ⟨ad434, e434, hx434_0, hx434_1⟩ := at_T42 HR0.out x12_2 p434 q434; cases e434; replace hx434_0 := (HB.out.cell (World.block_lt_of_cell? w _ hx434_0)).trans hx434_0; replace hx434_1 := (HB.out.cell (World.block_lt_of_cell? w _ hx434_1)).trans hx434_1; replace p434 := eq_true p434; replace q434 := eq_true q434))
              go_roundg kj23
              case measure => have := HJ4.out; have := HK2.out; have := HJ23.out; omega
              case rel => exact ⟨(y431), (true), (wrap64 (x12_2 + 1)), (by first | rfl | (simp; done) | (simp [*]; done)), (by first | rfl | (simp; done) | (simp [*]; done)), H', ⟨by have := HJ4.out; have := HK2.out; have := HJ23.out; omega⟩, ⟨by (with_reducible repeat (first | apply Kd.R_alloc | apply Kd.R_drewN | apply Kd.R_drew)); exact HO433.out⟩, ⟨qB HB⟩⟩
             ·rw [if_neg c31] at H
              have c31b0 : (((rd_T42 l0 x12_2).f0).toList == a1.toList) = false := beq_eq_false_iff_ne.mpr c31
              have c31b1 : (((rd_T42 l0 x12_2).f0).toList != a1.toList) = true := bne_iff_ne.mpr c31
              by_cases c33 : y431.length < 4398046511104
              ·rw [if_pos c33] at H
               have LMc33 := Aside0.mk c33
               clear c33
               obtain ⟨y436, hy436⟩ : ∃ y_ : List (S42), y_ = (y431 ++ [(⟨(rd_T42 l0 x12_2).f0, (rd_T42 l0 x12_2).f1⟩ : S42)]) := ⟨_, rfl⟩
               replace H : (spec_LabelSet.l0 kj23 l0 a1 a2 y436 true (wrap64 (x12_2 + 1))) = some (r1, r2) := by first | (rw [hy436]; with_reducible exact H) | (have H2_ := (Option.bind_some _ _).symm.trans H; rw [hy436]; with_reducible exact H2_) | (have H2_ := (Option.bind_some _ _).symm.trans H; with_reducible exact H2_) | with_reducible exact H | (rw [hy436]; exact H) | exact H
               have Ny436 := Aside0.mk hy436
               clear hy436
               have H' := Aside0.mk H
               clear H
               go_wp2_with (first | ((with_reducible refine gate_builtin (b := .append) (xs := #[.tmp 61, .tmp 65]) rfl ?_); (try (refine gate_guard (by rfl) ?_; dsimp only)); at_builtin; refine Kd.R_append k42 (w0 := w) w.heap.size rfl (.tmp 61) (.tmp 65) 22 42 (.agg #[(.string ⟨#[]⟩), (.string ⟨#[]⟩)]) 32 rfl Tryd.underlying22 info42 rfl (by decide) (by omega) u10 x10_2 (⟨a1, a2⟩ : S42) [.string a1, .string a2] (fun _ => True) (fun _ => False) rfl rfl ?aP (fun _ hk => hk.elim) ?aF ?aO ?aB ?aS ?aL ?_; (case aP => exact k42_mkM _ _ _ (⟨a1, a2⟩ : S42)); (case aB => exact (qB HB)); (case aF => exact (fun _ _ => trivial)); (case aO => exact (by (with_reducible repeat (first | apply Kd.R_alloc | apply Kd.R_drewN | apply Kd.R_drew)); exact HO_10.out)); (case aS => exact (below_size (qB HB))); (case aL => have := LMc28.out; omega); intro v432 w34 ho hb hg hat; rw [← Ny431.out] at ho; have n0_ := Aside0.mk (hb); have n1_ := Aside0.mk (ho); clear HB; clear HO_10; have HB := n0_; have HO433 := n1_; clear n0_ n1_; clear ho hb hg hat; have p434 : 0 ≤ (x12_2 : Int) := of_decide_eq_true (by first | (with_reducible assumption) | assumption); have q434 : x12_2 < (l0.length : Int) := of_decide_eq_true (by first | (with_reducible assumption) | assumption); obtain ⟨ad434, e434, hx434_0, hx434_1⟩ := at_T42 HR0.out x12_2 p434 q434; cases e434; replace hx434_0 := (HB.out.cell (World.block_lt_of_cell? w _ hx434_0)).trans hx434_0; replace hx434_1 := (HB.out.cell (World.block_lt_of_cell? w _ hx434_1)).trans hx434_1; replace p434 := eq_true p434; replace q434 := eq_true q434; have p435 : 0 ≤ (x12_2 : Int) := of_decide_eq_true (by first | (with_reducible assumption) | assumption); have q435 : x12_2 < (l0.length : Int) := of_decide_eq_true (by first | (with_reducible assumption) | assumption); obtain ⟨ad435, e435, hx435_0, hx435_1⟩ := at_T42 HR0.out x12_2 p435 q435; obtain rfl : ad434 = ad435 := (by injection e435); replace hx435_0 := (HB.out.cell (World.block_lt_of_cell? w _ hx435_0)).trans hx435_0; replace hx435_1 := (HB.out.cell (World.block_lt_of_cell? w _ hx435_1)).trans hx435_1; replace p435 := eq_true p435; replace q435 := eq_true q435) | ((with_reducible refine gate_builtin (b := .append) (xs := #[.tmp 74, .tmp 79]) rfl ?_); (try (refine gate_guard (by rfl) ?_; dsimp only)); at_builtin; refine Kd.R_append k42 (w0 := w) w.heap.size rfl (.tmp 74) (.tmp 79) 22 42 (.agg #[(.string ⟨#[]⟩), (.string ⟨#[]⟩)]) 32 rfl Tryd.underlying22 info42 rfl (by decide) (by omega) v432 y431 (⟨(rd_T42 l0 x12_2).f0, (rd_T42 l0 x12_2).f1⟩ : S42) [.string ((rd_T42 l0 x12_2).f0), .string ((rd_T42 l0 x12_2).f1)] (fun _ => True) (fun _ => False) rfl rfl ?aP (fun _ hk => hk.elim) ?aF ?aO ?aB ?aS ?aL ?_; (case aP => exact k42_mkM _ _ _ (⟨(rd_T42 l0 x12_2).f0, (rd_T42 l0 x12_2).f1⟩ : S42)); (case aB => exact (qB HB)); (case aF => exact (fun _ _ => trivial)); (case aO => exact (by (with_reducible repeat (first | apply Kd.R_alloc | apply Kd.R_drewN | apply Kd.R_drew)); exact HO433.out)); (case aS => exact (below_size (qB HB))); (case aL => have := LMc33.out; omega); intro v437 w35 ho hb hg hat; rw [← Ny436.out] at ho; have n0_ := Aside0.mk (hb); have n1_ := Aside0.mk (ho); clear HB; clear HO433; have HB := n0_; have HO438 := n1_; clear n0_ n1_; clear ho hb hg hat))
               go_roundg kj23
               case measure => have := HJ4.out; have := HK2.out; have := HJ23.out; omega
               case rel => exact ⟨(y436), (true), (wrap64 (x12_2 + 1)), (by first | rfl | (simp; done) | (simp [*]; done)), (by first | rfl | (simp; done) | (simp [*]; done)), H', ⟨by have := HJ4.out; have := HK2.out; have := HJ23.out; omega⟩, ⟨by (with_reducible repeat (first | apply Kd.R_alloc | apply Kd.R_drewN | apply Kd.R_drew)); exact HO438.out⟩, ⟨qB HB⟩⟩
              ·rw [if_neg c33] at H
               exact absurd H (by simp)
            ·rw [if_neg c30] at H
             exact absurd H (by simp)
           ·rw [if_neg c29] at H
            exact absurd H (by simp)
          ·rw [if_neg c28] at H
           exact absurd H (by simp)
         ·replace c27 := Bool.eq_false_iff.mpr c27
          subst c27
          have H1 : (if 0 ≤ x12_2 then (if x12_2 < (l0.length : Int) then (if ((rd_T42 l0 x12_2).f0).toList = a1.toList then (spec_LabelSet.l0 kj23 l0 a1 a2 x10_2 x11_2 (wrap64 (x12_2 + 1))) else (if x10_2.length < 4398046511104 then (spec_LabelSet.l0 kj23 l0 a1 a2 (x10_2 ++ [(⟨(rd_T42 l0 x12_2).f0, (rd_T42 l0 x12_2).f1⟩ : S42)]) x11_2 (wrap64 (x12_2 + 1))) else (none))) else (none)) else (none)) = some (r1, r2) := by rw [if_neg (show ¬ (false = true) by decide)] at H; exact H
          clear H
          have H := H1
          clear H1
          by_cases c36 : 0 ≤ x12_2
          ·rw [if_pos c36] at H
           have c36b0 : decide (0 ≤ x12_2) = true := decide_eq_true c36
           clear c36
           by_cases c37 : x12_2 < (l0.length : Int)
           ·rw [if_pos c37] at H
            have c37b0 : decide (x12_2 < (l0.length : Int)) = true := decide_eq_true c37
            clear c37
            by_cases c38 : ((rd_T42 l0 x12_2).f0).toList = a1.toList
            ·rw [if_pos c38] at H
             have c38b0 : (((rd_T42 l0 x12_2).f0).toList == a1.toList) = true := beq_iff_eq.mpr c38
             have c38b1 : (((rd_T42 l0 x12_2).f0).toList != a1.toList) = false := bne_eq_false_iff_eq.mpr c38
             clear c38
             have H' := Aside0.mk H
             clear H
             have p439 : 0 ≤ (x12_2 : Int) := of_decide_eq_true (by first | (with_reducible assumption) | assumption)
             have q439 : x12_2 < (l0.length : Int) := of_decide_eq_true (by first | (with_reducible assumption) | assumption)
             obtain ⟨ad439, e439, hx439_0, hx439_1⟩ := at_T42 HR0.out x12_2 p439 q439
             cases e439
             replace hx439_0 := (HB.out.cell (World.block_lt_of_cell? w _ hx439_0)).trans hx439_0
             replace hx439_1 := (HB.out.cell (World.block_lt_of_cell? w _ hx439_1)).trans hx439_1
             replace p439 := eq_true p439
             replace q439 := eq_true q439
             go_wp2
             go_roundg kj23
             case measure => have := HJ4.out; have := HK2.out; have := HJ23.out; omega
             case rel => exact ⟨(x10_2), (x11_2), (wrap64 (x12_2 + 1)), (by first | rfl | (simp; done) | (simp [*]; done)), (by first | rfl | (simp; done) | (simp [*]; done)), H', ⟨by have := HJ4.out; have := HK2.out; have := HJ23.out; omega⟩, ⟨by (with_reducible repeat (first | apply Kd.R_alloc | apply Kd.R_drewN | apply Kd.R_drew)); exact HO_10.out⟩, ⟨qB HB⟩⟩
            ·rw [if_neg c38] at H
             have c38b0 : (((rd_T42 l0 x12_2).f0).toList == a1.toList) = false := beq_eq_false_iff_ne.mpr c38
             have c38b1 : (((rd_T42 l0 x12_2).f0).toList != a1.toList) = true := bne_iff_ne.mpr c38
             by_cases c39 : x10_2.length < 4398046511104
             ·rw [if_pos c39] at H
              have LMc39 := Aside0.mk c39
              clear c39
              obtain ⟨y441, hy441⟩ : ∃ y_ : List (S42), y_ = (x10_2 ++ [(⟨(rd_T42 l0 x12_2).f0, (rd_T42 l0 x12_2).f1⟩ : S42)]) := ⟨_, rfl⟩
              replace H : (spec_LabelSet.l0 kj23 l0 a1 a2 y441 x11_2 (wrap64 (x12_2 + 1))) = some (r1, r2) := by first | (rw [hy441]; with_reducible exact H) | (have H2_ := (Option.bind_some _ _).symm.trans H; rw [hy441]; with_reducible exact H2_) | (have H2_ := (Option.bind_some _ _).symm.trans H; with_reducible exact H2_) | with_reducible exact H | (rw [hy441]; exact H) | exact H
              have Ny441 := Aside0.mk hy441
              clear hy441
              have H' := Aside0.mk H
              clear H
              have p439 : 0 ≤ (x12_2 : Int) := of_decide_eq_true (by first | (with_reducible assumption) | assumption)
              have q439 : x12_2 < (l0.length : Int) := of_decide_eq_true (by first | (with_reducible assumption) | assumption)
              obtain ⟨ad439, e439, hx439_0, hx439_1⟩ := at_T42 HR0.out x12_2 p439 q439
              cases e439
              replace hx439_0 := (HB.out.cell (World.block_lt_of_cell? w _ hx439_0)).trans hx439_0
              replace hx439_1 := (HB.out.cell (World.block_lt_of_cell? w _ hx439_1)).trans hx439_1
              replace p439 := eq_true p439
              replace q439 := eq_true q439
              have p440 : 0 ≤ (x12_2 : Int) := of_decide_eq_true (by first | (with_reducible assumption) | assumption)
              have q440 : x12_2 < (l0.length : Int) := of_decide_eq_true (by first | (with_reducible assumption) | assumption)
              obtain ⟨ad440, e440, hx440_0, hx440_1⟩ := at_T42 HR0.out x12_2 p440 q440
              obtain rfl : ad439 = ad440 := (by injection e440)
              replace hx440_0 := (HB.out.cell (World.block_lt_of_cell? w _ hx440_0)).trans hx440_0
              replace hx440_1 := (HB.out.cell (World.block_lt_of_cell? w _ hx440_1)).trans hx440_1
              replace p440 := eq_true p440
              replace q440 := eq_true q440
              go_wp2_with (first | ((with_reducible refine gate_builtin (b := .append) (xs := #[.tmp 74, .tmp 79]) rfl ?_); (try (refine gate_guard (by rfl) ?_; dsimp only)); at_builtin; refine Kd.R_append k42 (w0 := w) w.heap.size rfl (.tmp 74) (.tmp 79) 22 42 (.agg #[(.string ⟨#[]⟩), (.string ⟨#[]⟩)]) 32 rfl Tryd.underlying22 info42 rfl (by decide) (by omega) u10 x10_2 (⟨(rd_T42 l0 x12_2).f0, (rd_T42 l0 x12_2).f1⟩ : S42) [.string ((rd_T42 l0 x12_2).f0), .string ((rd_T42 l0 x12_2).f1)] (fun _ => True) (fun _ => False) rfl rfl ?aP (fun _ hk => hk.elim) ?aF ?aO ?aB ?aS ?aL ?_; (case aP => exact k42_mkM _ _ _ (⟨(rd_T42 l0 x12_2).f0, (rd_T42 l0 x12_2).f1⟩ : S42)); (case aB => exact (qB HB)); (case aF => exact (fun _ _ => trivial)); (case aO => exact (by (with_reducible repeat (first | apply Kd.R_alloc | apply Kd.R_drewN | apply Kd.R_drew)); exact HO_10.out)); (case aS => exact (below_size (qB HB))); (case aL => have := LMc39.out; omega); intro v442 w40 ho hb hg hat; rw [← Ny441.out] at ho; have n0_ := Aside0.mk (hb); have n1_ := Aside0.mk (ho); clear HB; clear HO_10; have HB := n0_; have HO443 := n1_; clear n0_ n1_; clear ho hb hg hat))
              go_roundg kj23
              case measure => have := HJ4.out; have := HK2.out; have := HJ23.out; omega
              case rel => exact ⟨(y441), (x11_2), (wrap64 (x12_2 + 1)), (by first | rfl | (simp; done) | (simp [*]; done)), (by first | rfl | (simp; done) | (simp [*]; done)), H', ⟨by have := HJ4.out; have := HK2.out; have := HJ23.out; omega⟩, ⟨by (with_reducible repeat (first | apply Kd.R_alloc | apply Kd.R_drewN | apply Kd.R_drew)); exact HO443.out⟩, ⟨qB HB⟩⟩
             ·rw [if_neg c39] at H
              exact absurd H (by simp)
           ·rw [if_neg c37] at H
            exact absurd H (by simp)
          ·rw [if_neg c36] at H
           exact absurd H (by simp)
      ·rw [if_neg c23] at H
       have c23b0 : decide (x12_2 < (l0.length : Int)) = false := decide_eq_false c23
       clear c23
       by_cases c41 : x11_2 = true
       ·subst c41
        have H1 : (some (x10_2, true)) = some (r1, r2) := by rw [if_pos rfl] at H; exact H
        clear H
        have H := H1
        clear H1
        simp only [Option.some.injEq, Prod.mk.injEq] at H
        obtain ⟨rfl, rfl⟩ := H
        go_wp2
        go_ret2
        exact ⟨_, by first | rfl | (simp [errW_none, errW_some] <;> rfl) | (simp [*, errW_none, errW_some] <;> rfl), by (with_reducible repeat (first | apply Kd.R_alloc | apply Kd.R_drewN | apply Kd.R_drew)); exact HO_10.out, by repeat (first | (with_reducible first | exact HB.out | apply below_alloc | apply pw_below_drewN | apply below_drew1) | exact HB.out)⟩
       ·replace c41 := Bool.eq_false_iff.mpr c41
        subst c41
        have H1 : (if x10_2.length < 4398046511104 then (some ((x10_2 ++ [(⟨a1, a2⟩ : S42)]), true)) else (none)) = some (r1, r2) := by rw [if_neg (show ¬ (false = true) by decide)] at H; exact H
        clear H
        have H := H1
        clear H1
        by_cases c42 : x10_2.length < 4398046511104
        ·rw [if_pos c42] at H
         have LMc42 := Aside0.mk c42
         clear c42
         obtain ⟨y427, hy427⟩ : ∃ y_ : List (S42), y_ = (x10_2 ++ [(⟨a1, a2⟩ : S42)]) := ⟨_, rfl⟩
         replace H : (some (y427, true)) = some (r1, r2) := by first | (rw [hy427]; with_reducible exact H) | (have H2_ := (Option.bind_some _ _).symm.trans H; rw [hy427]; with_reducible exact H2_) | (have H2_ := (Option.bind_some _ _).symm.trans H; with_reducible exact H2_) | with_reducible exact H | (rw [hy427]; exact H) | exact H
         have Ny427 := Aside0.mk hy427
         clear hy427
         simp only [Option.some.injEq, Prod.mk.injEq] at H
         obtain ⟨rfl, rfl⟩ := H
         go_wp2_with (first | ((with_reducible refine gate_builtin (b := .append) (xs := #[.tmp 83, .tmp 87]) rfl ?_); (try (refine gate_guard (by rfl) ?_; dsimp only)); at_builtin; refine Kd.R_append k42 (w0 := w) w.heap.size rfl (.tmp 83) (.tmp 87) 22 42 (.agg #[(.string ⟨#[]⟩), (.string ⟨#[]⟩)]) 32 rfl Tryd.underlying22 info42 rfl (by decide) (by omega) u10 x10_2 (⟨a1, a2⟩ : S42) [.string a1, .string a2] (fun _ => True) (fun _ => False) rfl rfl ?aP (fun _ hk => hk.elim) ?aF ?aO ?aB ?aS ?aL ?_; (case aP => exact k42_mkM _ _ _ (⟨a1, a2⟩ : S42)); (case aB => exact (qB HB)); (case aF => exact (fun _ _ => trivial)); (case aO => exact (by (with_reducible repeat (first | apply Kd.R_alloc | apply Kd.R_drewN | apply Kd.R_drew)); exact HO_10.out)); (case aS => exact (below_size (qB HB))); (case aL => have := LMc42.out; omega); intro v428 w43 ho hb hg hat; rw [← Ny427.out] at ho; have n0_ := Aside0.mk (hb); have n1_ := Aside0.mk (ho); clear HB; clear HO_10; have HB := n0_; have HO429 := n1_; clear n0_ n1_; clear ho hb hg hat))
         go_ret2
         exact ⟨_, by first | rfl | (simp [errW_none, errW_some] <;> rfl) | (simp [*, errW_none, errW_some] <;> rfl), by (with_reducible repeat (first | apply Kd.R_alloc | apply Kd.R_drewN | apply Kd.R_drew)); exact HO429.out, by repeat (first | (with_reducible first | exact HB.out | apply below_alloc | apply pw_below_drewN | apply below_drew1) | exact HB.out)⟩
        ·rw [if_neg c42] at H
         exact absurd H (by simp)

end Go.Proofs.YtpjpnppoejnafaaDoor.G

/- PLabSet -/
/-
  A label is set: the reference's answer.
-/
namespace Go.Proofs.YtpjpnppoejnafaaDoor.G
open Go.RowKit Go.Proofs.YtpjpnppoejnafaaDoorW.PrintWords Go.Proofs.YtpjpnppoejnafaaDoorW.PrintLast Go.Proofs.YtpjpnppoejnafaaDoorW.PrintMore
set_option linter.unusedVariables false
set_option linter.unusedSimpArgs false
/-- Ahead of the first that is not less, in place of those of the same key. -/
def insB (key v : ByteArray) : Bool → List ILab → List ILab
  | done, [] => if done then [] else [⟨key, v⟩]
  | done, y :: ys =>
    if !done && !(Op.bytesLess y.f0.toList key.toList) then ⟨key, v⟩ :: (if y.f0.toList = key.toList then insB key v true ys else y :: insB key v true ys)
    else if y.f0.toList = key.toList then insB key v done ys else y :: insB key v done ys
theorem insB_len (key v : ByteArray) : ∀ (done : Bool) (l : List ILab), (insB key v done l).length ≤ l.length + 1
  | done, [] => by rw [insB]; cases done <;> simp
  | done, y :: ys => by
    have h1 := insB_len key v true ys
    have h2 := insB_len key v done ys
    have h3 : (insB key v true ys).length ≤ ys.length := by
      have key2 : ∀ l : List ILab, (insB key v true l).length ≤ l.length := by
        intro l
        induction l with
        | nil => simp [insB]
        | cons z zs ih => rw [insB]; simp only [Bool.not_true, Bool.false_and, Bool.false_eq_true, if_false]; split <;> simp <;> omega
      exact key2 ys
    rw [insB]
    split
    · split <;> simp <;> omega
    · split <;> simp <;> omega
theorem insB_mem (key v : ByteArray) : ∀ (done : Bool) (l : List ILab) (x : ILab), x ∈ insB key v done l → x ∈ l ∨ x = ⟨key, v⟩
  | done, [], x, h => by rw [insB] at h; cases done <;> simp at h; exact .inr h
  | done, y :: ys, x, h => by
    rw [insB] at h
    have go : ∀ d, x ∈ insB key v d ys → x ∈ y :: ys ∨ x = ⟨key, v⟩ := fun d hx => (insB_mem key v d ys x hx).imp_left (fun h => by simp [h])
    split at h
    · rcases List.mem_cons.1 h with h | h
      · exact .inr h
      · split at h
        · exact go _ h
        · rcases List.mem_cons.1 h with h | h
          · exact .inl (by simp [h])
          · exact go _ h
    · split at h
      · exact go _ h
      · rcases List.mem_cons.1 h with h | h
        · exact .inl (by simp [h])
        · exact go _ h
theorem specLabelSet_l0 (xs : List ILab) (key v : ByteArray) (hl : xs.length ≤ 1048576) : ∀ (d i : Nat) (ys : List ILab) (done : Bool), i + d = xs.length → ys.length ≤ 2 * i + 1 →
    Ev (fun k => spec_LabelSet.l0 k xs key v ys done i) (ys ++ insB key v done (xs.drop i), true)
  | 0, i, ys, done, hd, hy => by
    refine Ev.step (fun k => by rw [spec_LabelSet.l0]) (ev_if_neg (by omega) ?_)
    rw [List.drop_of_length_le (by omega), insB]
    cases done with
    | true => exact ev_if_pos rfl (ev_some (by simp))
    | false => exact ev_if_neg Bool.false_ne_true (ev_if_pos (by omega) (ev_some (by simp)))
  | d + 1, i, ys, done, hd, hy => by
    have hi : i < xs.length := by omega
    have fin : ∀ (zs : List ILab) (dn : Bool), zs.length ≤ 2 * i + 3 → Ev (fun k => spec_LabelSet.l0 k xs key v zs dn ((i + 1 : Nat) : Int)) (zs ++ insB key v dn (xs.drop (i + 1)), true) := fun zs dn h1 => specLabelSet_l0 xs key v hl d (i + 1) zs dn (by omega) (by omega)
    have j2 : ∀ b : Bool, b = (!done && !(Op.bytesLess xs[i].f0.toList key.toList)) → Ev (fun k => spec_LabelSet.j2 k xs key v ys done i b) (ys ++ insB key v done (xs.drop i), true) := by
      intro b hb
      rw [List.drop_eq_getElem_cons hi, insB, ← hb]
      refine Ev.step (fun k => by rw [spec_LabelSet.j2]) ?_
      simp only [rdIL hi, wsucc hi (by omega : xs.length ≤ 9223372036854775807), Option.bind_some]
      cases b with
      | true =>
        rw [if_pos rfl]
        refine ev_if_pos rfl (ev_if_pos (by omega) (ev_if_pos (by omega) (ev_if_pos (by omega) ?_)))
        by_cases c : xs[i].f0.toList = key.toList
        · rw [if_pos c]
          refine ev_if_pos c (ev_rw (fin (ys ++ [⟨key, v⟩]) true (by simp; omega)) (by simp))
        · rw [if_neg c]
          refine ev_if_neg c (ev_if_pos (by simp; omega) ?_)
          have e : (⟨xs[i].f0, xs[i].f1⟩ : ILab) = xs[i] := rfl
          refine ev_rw (specLabelSet_l0 xs key v hl d (i + 1) (ys ++ [⟨key, v⟩] ++ [xs[i]]) true (by omega) (by simp; omega)) (by simp)
      | false =>
        rw [if_neg Bool.false_ne_true]
        refine ev_if_neg Bool.false_ne_true (ev_if_pos (by omega) (ev_if_pos (by omega) ?_))
        by_cases c : xs[i].f0.toList = key.toList
        · rw [if_pos c]
          exact ev_if_pos c (fin ys done (by omega))
        · rw [if_neg c]
          refine ev_if_neg c (ev_if_pos (by omega) ?_)
          exact ev_rw (fin (ys ++ [xs[i]]) done (by simp; omega)) (by simp)
    refine Ev.step (fun k => by rw [spec_LabelSet.l0]) (ev_if_pos (by omega) ?_)
    cases done with
    | true => exact ev_if_pos rfl (j2 false (by simp))
    | false =>
      refine ev_if_neg Bool.false_ne_true (ev_if_pos (by omega) ?_)
      rw [rdIL hi]
      exact j2 _ (by simp)
theorem l1Labels_ev (xs : List ILab) (hl : xs.length ≤ 1048576) : Ev (fun _ => spec_l1Labels.f xs) xs := by
  unfold spec_l1Labels.f
  simp only [Option.bind_some, List.nil_append, List.length_nil, Nat.zero_add]
  exact ev_if_pos (by omega) (Ev.now _)
def setOk (xs : List ILab) (key v : ByteArray) : Bool := labsB xs && (nameB key && (nameB v && ((labGet xs key).2 || (xs.length : Int) != 8)))
def labSet (xs : List ILab) (key v : ByteArray) : List ILab × Bool := if setOk xs key v = true then (insB key v false xs, true) else (xs, false)
theorem specLabelSet_ev (xs : List ILab) (key v : ByteArray) (hw : wfILabs xs) (hl : xs.length ≤ 1048576) (hk : key.size ≤ 9223372036854775807) (hv : v.size ≤ 9223372036854775807) : Ev (fun k => spec_LabelSet.f k xs key v) (labSet xs key v) := by
  have bad : ∀ (b : Bool), b = true → setOk xs key v = false → Ev (fun k => spec_LabelSet.j0 k xs key v b) (labSet xs key v) := by
    intro b hb h
    unfold labSet
    rw [h, if_neg Bool.false_ne_true]
    exact Ev.step (fun k => by rw [spec_LabelSet.j0]) (ev_if_pos hb (Ev.bind (l1Labels_ev xs hl) (Ev.now _)))
  have good : ∀ (b : Bool), b = false → setOk xs key v = true → Ev (fun k => spec_LabelSet.j0 k xs key v b) (labSet xs key v) := by
    intro b hb h
    unfold labSet
    rw [h, if_pos rfl]
    refine Ev.step (fun k => by rw [spec_LabelSet.j0]) (ev_if_neg (by rw [hb]; exact Bool.false_ne_true) ?_)
    have := specLabelSet_l0 xs key v hl xs.length 0 [] false (by omega) (by simp)
    simpa using this
  unfold spec_LabelSet.f
  refine Ev.bind (specLabelGet_ev xs key hw.1) (Ev.bind (specLabelsOk_ev xs hw) ?_)
  cases h1 : labsB xs with
  | false => exact ev_if_neg Bool.false_ne_true (bad _ rfl (by simp [setOk, h1]))
  | true =>
    refine ev_if_pos rfl (Ev.bind (specNameOk_ev key hk) ?_)
    cases h2 : nameB key with
    | false => exact ev_if_neg Bool.false_ne_true (bad _ rfl (by simp [setOk, h2]))
    | true =>
      refine ev_if_pos rfl (Ev.bind (specNameOk_ev v hv) ?_)
      cases h3 : nameB v with
      | false => exact ev_if_neg Bool.false_ne_true (bad _ rfl (by simp [setOk, h3]))
      | true =>
        refine ev_if_pos rfl ?_
        cases h4 : (labGet xs key).2 with
        | true => exact ev_if_pos rfl (good _ rfl (by simp [setOk, h1, h2, h3, h4]))
        | false =>
          refine ev_if_neg Bool.false_ne_true ?_
          cases h5 : ((xs.length : Int) == 8) with
          | true => exact bad _ rfl (by have := beq_iff_eq.1 h5; simp only [setOk, h1, h2, h3, h4, Bool.true_and, Bool.false_or]; rw [bne, h5]; rfl)
          | false => exact good _ rfl (by simp only [setOk, h1, h2, h3, h4, Bool.true_and, Bool.false_or]; rw [bne, h5]; rfl)
theorem labSet_len (xs : List ILab) (key v : ByteArray) : (labSet xs key v).1.length ≤ xs.length + 1 := by
  unfold labSet
  split
  · exact insB_len key v false xs
  · show xs.length ≤ _; omega
theorem labSet_mem (xs : List ILab) (key v : ByteArray) (x : ILab) (h : x ∈ (labSet xs key v).1) : x ∈ xs ∨ x = ⟨key, v⟩ := by
  unfold labSet at h
  split at h
  · exact insB_mem key v false xs x h
  · exact .inl h
end Go.Proofs.YtpjpnppoejnafaaDoor.G

/- G83 -/
-- Laid by wip/g/gprint.py out of the translation, by the kit's print program. Lean checks it.
namespace Go.Proofs.YtpjpnppoejnafaaDoor.G
open Go.RowKit Go.Proofs.YtpjpnppoejnafaaDoorW.PrintWords Go.Proofs.YtpjpnppoejnafaaDoorW.PrintLast Go.Proofs.YtpjpnppoejnafaaDoorW.PrintMore
attribute [local go_sem] max2_int min2_int max_two min_two max_three min_three max_four min_four   -- for this text's walks alone
set_option linter.unusedVariables false
set_option linter.unusedSimpArgs false

/-! ### spec_l1Draw: function 83 -/
def spec_l1Draw.l0 : Nat → List (S42) → Int → List Int → Int → Int → Option ((List (S42)) × Int × Int)
 | 0, _, _, _, _, _ => none
 | k + 1, x5, x6, x1000, x1001, x1002 => if x6 > 0 then ((spec_l1Name.f x1000 x1001 x1002).bind fun bt450 => ((spec_l1Name.f x1000 bt450.2.1 bt450.2.2).bind fun bt453 => ((spec_LabelSet.f k x5 bt450.1 bt453.1).bind fun bt456 => (spec_l1Draw.l0 k bt456.1 (wrap64 (x6 - 1)) x1000 bt453.2.1 bt453.2.2)))) else (some (x5, x1001, x1002))
def spec_l1Draw.f (k : Nat) (s0_0 : List Int) (s0_1 : Int) (s0_2 : Int) (a1 : Int) : Option ((List (S42)) × Int × Int) := (spec_l1Below.f s0_0 s0_1 s0_2 a1).bind fun bt447 => (spec_l1Draw.l0 k (([] : List (S42))) bt447.1 s0_0 bt447.2.1 bt447.2.2)
set_option maxHeartbeats 8000000 in
set_option maxRecDepth 100000 in
theorem spec_l1Draw.calls (k : Nat) (g : Nat) (s0_0 : List Int) (s0_1 : Int) (s0_2 : Int) (a1 : Int) (r1 : List (S42)) (r2 : Int) (r3 : Int) (w0 w : World) (hI : IsS93 w0 w g s0_0 s0_1 s0_2) (hB : Below w0.heap.size w0 w) (h : spec_l1Draw.f k s0_0 s0_1 s0_2 a1 = some (r1, r2, r3)) :
  Calls Tryd.prog 83 #[.pointer (some ⟨g, 0, none⟩), .int .i64 a1] w fun e w' => ∃ v0_ : Value, e = .returned (v0_) ∧ Kd.R k42 42 w' w.heap.size (fun _ => True) v0_ r1 ∧ IsS93 w0 w' g s0_0 r2 r3 ∧ Below w0.heap.size w0 w' ∧ KeepBut w w' g none := by
 have HI0 := Aside0.mk hI
 have HK := Aside0.mk (KeepBut.refl w g none)
 have HL := Aside0.mk hB.size
 clear hI
 have HW0 := Aside0.mk hB.size
 have HB := Aside0.mk hB
 clear hB
 unfold spec_l1Draw.f at h; have H := h
 clear h
 obtain ⟨y444, hy444⟩ : ∃ y_ : List (S42), y_ = (([] : List (S42))) := ⟨_, rfl⟩
 replace H : ((spec_l1Below.f s0_0 s0_1 s0_2 a1).bind fun bt447 => (spec_l1Draw.l0 k y444 bt447.1 s0_0 bt447.2.1 bt447.2.2)) = some (r1, r2, r3) := by first | (rw [hy444]; with_reducible exact H) | (have H2_ := (Option.bind_some _ _).symm.trans H; rw [hy444]; with_reducible exact H2_) | (have H2_ := (Option.bind_some _ _).symm.trans H; with_reducible exact H2_) | with_reducible exact H | (rw [hy444]; exact H) | exact H
 have Ny444 := Aside0.mk hy444
 clear hy444
 replace H := Option.bind_eq_some_iff.mp H
 obtain ⟨⟨t447, t448, t449⟩, A30, H⟩ := H
 try dsimp only at H
 have A3 := Aside0.mk A30
 clear A30
 have H' := Aside0.mk H
 clear H
 go_enter Tryd.func83, Tryd.ntmps83
 go_wp2_with (first | ((with_reducible refine gate_dst (N := 7) rfl ?_); refine Kd.R_lit k42 _ 42 ?hg (N := 7) ?hd (xs := ([] : List (S42))) (inner := []) (ok := fun _ => True) (okp := fun _ => True) ?hr ?hp (fun _ hk => hk) trivial (Below.refl _ _) (Nat.le_refl _) (by simp) ?_; (case hd => rfl); (case hg => rfl); (case hr => go_simp); (case hp => exact (Reps.none _ _)); intro v445 w4 ho5 hb hg_ hnew_; clear hg_ hnew_; (first | rw [← Ny444.out] at ho5 | (simp only [Int.reduceToNat] at ho5; rw [← Ny444.out] at ho5)); have n0_ := Aside0.mk (Kd.R_lower ho5 (keep_size (w := w) (g := g) (row := none) (by repeat (first | (with_reducible first | exact HK.out | apply KeepBut.set_ | apply keep_drewN | apply keep_drew | apply keep_alloc) | exact HK.out)))); have n1_ := Aside0.mk (IsS93.below (by repeat (first | (with_reducible first | exact HI0.out | apply IsS93.alloc | apply IsS93.drewN | apply IsS93.drew | apply IsS93.set_1 | apply IsS93.set_2) | exact HI0.out)) hb); have n2_ := Aside0.mk (KeepBut.trans (by repeat (first | (with_reducible first | exact HK.out | apply KeepBut.set_ | apply keep_drewN | apply keep_drew | apply keep_alloc) | exact HK.out)) (KeepBut.of_below hb g none) (.inl rfl)); have n3_ := Aside0.mk (below_step (by repeat (first | (with_reducible first | exact HB.out | apply below_alloc | apply pw_below_drewN | apply below_drew1 | refine below_set ?_ (IsS93.ge HI0.out)) | exact HB.out)) hb); clear HI0; clear HK; clear HB; have HO446 := n0_; have HI0 := n1_; have HK := n2_; have HB := n3_; clear n0_ n1_ n2_ n3_; clear hb ho5) | ((with_reducible refine gate_callee (f := 62) rfl ?_); refine goesL_ (some 10) rfl rfl Tryd.func62 (by kernel_rfl) rfl #[.pointer (some ⟨g, 0, none⟩), .int .i64 a1] rfl (by (try simp only [List.map_toArray, List.map_cons, List.map_nil]); first | done | rfl | (simp only [List.length_drop, List.length_take]; rfl)) ?_; (with_reducible refine (spec_l1Below.calls g s0_0 s0_1 s0_2 a1 t447 t448 t449 w0 _ ?side1 ?side2 A3.out).mono ?_); (case side1 => repeat (first | (with_reducible first | exact HI0.out | apply IsS93.alloc | apply IsS93.drewN | apply IsS93.drew | apply IsS93.set_1 | apply IsS93.set_2) | exact HI0.out)); (case side2 => repeat (first | (with_reducible first | exact HB.out | apply below_alloc | apply pw_below_drewN | apply below_drew1 | refine below_set ?_ (IsS93.ge HI0.out)) | exact HB.out)); rintro e w6 ⟨rfl, hi, hb, hk⟩; refine ⟨_, rfl, ?_⟩; have n0_ := Aside0.mk (Kd.R_mono (Kd.R_keep (IsS93.apart (show IsS93 w0 _ g s0_0 s0_1 s0_2 from by repeat (first | (with_reducible first | exact HI0.out | apply IsS93.alloc | apply IsS93.drewN | apply IsS93.drew | apply IsS93.set_1 | apply IsS93.set_2) | exact HI0.out)) (by (with_reducible repeat (first | apply Kd.R_alloc | apply Kd.R_drewN | apply Kd.R_drew)); exact HO446.out) (by decide)) hk (fun _ h => h.2)) (fun _ h => h.1)); have n1_ := Aside0.mk (KeepBut.trans (by repeat (first | (with_reducible first | exact HK.out | apply KeepBut.set_ | apply keep_drewN | apply keep_drew | apply keep_alloc) | exact HK.out)) hk (.inl rfl)); have n2_ := Aside0.mk (hb); have n3_ := Aside0.mk (hi); clear HO446; clear HK; clear HB; clear HI0; have HO446 := n0_; have HK := n1_; have HB := n2_; have HI0 := n3_; clear n0_ n1_ n2_ n3_; (try clear hb); (try clear hb2); (try clear hk); (try clear hi)))
 go_loopg [5, 6] k (fun kq v5 v6 w' => ∃ (x5_1 : List (S42)) (x6_1 : Int) (x1001_1 : Int) (x1002_1 : Int), v6 = .int .i64 x6_1 ∧ Aside0 (spec_l1Draw.l0 kq x5_1 x6_1 s0_0 x1001_1 x1002_1 = some (r1, r2, r3)) ∧ Aside0 (kq ≤ k) ∧ Aside0 (Kd.R k42 42 w' w.heap.size (fun _ => True) v5 x5_1) ∧ Aside0 (IsS93 w0 w' g s0_0 x1001_1 x1002_1) ∧ Aside0 (KeepBut w w' g none) ∧ Aside0 (Below w0.heap.size w0 w'))
 case atStart => exact ⟨(y444), (t447), (t448), (t449), (by first | rfl | (simp; done) | (simp [*]; done)), H', ⟨Nat.le_refl _⟩, ⟨by (with_reducible repeat (first | apply Kd.R_alloc | apply Kd.R_drewN | apply Kd.R_drew)); exact HO446.out⟩, ⟨by repeat (first | (with_reducible first | exact HI0.out | apply IsS93.alloc | apply IsS93.drewN | apply IsS93.drew | apply IsS93.set_1 | apply IsS93.set_2) | exact HI0.out)⟩, ⟨by repeat (first | (with_reducible first | exact HK.out | apply KeepBut.set_ | apply keep_drewN | apply keep_drew | apply keep_alloc) | exact HK.out)⟩, ⟨by repeat (first | (with_reducible first | exact HB.out | apply below_alloc | apply pw_below_drewN | apply below_drew1 | refine below_set ?_ (IsS93.ge HI0.out)) | exact HB.out)⟩⟩
 case round =>
  clear H'
  try clear p2
  try clear c6
  obtain ⟨x5_1, x6_1, x1001_1, x1002_1, rfl, HA, HK1, HO_5, HI0, HK, HB⟩ := hrel
  cases gk with
  | zero => exact absurd HA.out (by simp [spec_l1Draw.l0])
  | succ k1 =>
   have H := HA.out
   clear HA
   simp only [spec_l1Draw.l0] at H
   by_cases c7 : x6_1 > 0
   ·rw [if_pos c7] at H
    have c7b0 : decide (0 < x6_1) = true := decide_eq_true c7
    clear c7
    replace H := Option.bind_eq_some_iff.mp H
    obtain ⟨⟨t450, t451, t452⟩, A80, H⟩ := H
    try dsimp only at H
    have A8 := Aside0.mk A80
    clear A80
    replace H := Option.bind_eq_some_iff.mp H
    obtain ⟨⟨t453, t454, t455⟩, A90, H⟩ := H
    try dsimp only at H
    have A9 := Aside0.mk A90
    clear A90
    replace H := Option.bind_eq_some_iff.mp H
    obtain ⟨⟨t456, t457⟩, A100, H⟩ := H
    try dsimp only at H
    have A10 := Aside0.mk A100
    clear A100
    have H' := Aside0.mk H
    clear H
    go_wp2_with (first | ((with_reducible refine gate_callee (f := 84) rfl ?_); refine goesL_ (some 18) rfl rfl Tryd.func84 (by kernel_rfl) rfl #[.pointer (some ⟨g, 0, none⟩)] rfl (by (try simp only [List.map_toArray, List.map_cons, List.map_nil]); first | done | rfl | (simp only [List.length_drop, List.length_take]; rfl)) ?_; (with_reducible refine (spec_l1Name.calls g s0_0 x1001_1 x1002_1 t450 t451 t452 w0 _ ?side1 ?side2 A8.out).mono ?_); (case side1 => repeat (first | (with_reducible first | exact HI0.out | apply IsS93.alloc | apply IsS93.drewN | apply IsS93.drew | apply IsS93.set_1 | apply IsS93.set_2) | exact HI0.out)); (case side2 => repeat (first | (with_reducible first | exact HB.out | apply below_alloc | apply pw_below_drewN | apply below_drew1 | refine below_set ?_ (IsS93.ge HI0.out)) | exact HB.out)); rintro e w11 ⟨rfl, hi, hb, hk⟩; refine ⟨_, rfl, ?_⟩; have n0_ := Aside0.mk (Kd.R_mono (Kd.R_keep (IsS93.apart (show IsS93 w0 _ g s0_0 x1001_1 x1002_1 from by repeat (first | (with_reducible first | exact HI0.out | apply IsS93.alloc | apply IsS93.drewN | apply IsS93.drew | apply IsS93.set_1 | apply IsS93.set_2) | exact HI0.out)) (by (with_reducible repeat (first | apply Kd.R_alloc | apply Kd.R_drewN | apply Kd.R_drew)); exact HO_5.out) (by decide)) hk (fun _ h => h.2)) (fun _ h => h.1)); have n1_ := Aside0.mk (KeepBut.trans (by repeat (first | (with_reducible first | exact HK.out | apply KeepBut.set_ | apply keep_drewN | apply keep_drew | apply keep_alloc) | exact HK.out)) hk (.inl rfl)); have n2_ := Aside0.mk (hb); have n3_ := Aside0.mk (hi); clear HO_5; clear HK; clear HB; clear HI0; have HO_5 := n0_; have HK := n1_; have HB := n2_; have HI0 := n3_; clear n0_ n1_ n2_ n3_; (try clear hb); (try clear hb2); (try clear hk); (try clear hi)) | ((with_reducible refine gate_callee (f := 84) rfl ?_); refine goesL_ (some 20) rfl rfl Tryd.func84 (by kernel_rfl) rfl #[.pointer (some ⟨g, 0, none⟩)] rfl (by (try simp only [List.map_toArray, List.map_cons, List.map_nil]); first | done | rfl | (simp only [List.length_drop, List.length_take]; rfl)) ?_; (with_reducible refine (spec_l1Name.calls g s0_0 t451 t452 t453 t454 t455 w0 _ ?side1 ?side2 A9.out).mono ?_); (case side1 => repeat (first | (with_reducible first | exact HI0.out | apply IsS93.alloc | apply IsS93.drewN | apply IsS93.drew | apply IsS93.set_1 | apply IsS93.set_2) | exact HI0.out)); (case side2 => repeat (first | (with_reducible first | exact HB.out | apply below_alloc | apply pw_below_drewN | apply below_drew1 | refine below_set ?_ (IsS93.ge HI0.out)) | exact HB.out)); rintro e w12 ⟨rfl, hi, hb, hk⟩; refine ⟨_, rfl, ?_⟩; have n0_ := Aside0.mk (Kd.R_mono (Kd.R_keep (IsS93.apart (show IsS93 w0 _ g s0_0 t451 t452 from by repeat (first | (with_reducible first | exact HI0.out | apply IsS93.alloc | apply IsS93.drewN | apply IsS93.drew | apply IsS93.set_1 | apply IsS93.set_2) | exact HI0.out)) (by (with_reducible repeat (first | apply Kd.R_alloc | apply Kd.R_drewN | apply Kd.R_drew)); exact HO_5.out) (by decide)) hk (fun _ h => h.2)) (fun _ h => h.1)); have n1_ := Aside0.mk (KeepBut.trans (by repeat (first | (with_reducible first | exact HK.out | apply KeepBut.set_ | apply keep_drewN | apply keep_drew | apply keep_alloc) | exact HK.out)) hk (.inl rfl)); have n2_ := Aside0.mk (hb); have n3_ := Aside0.mk (hi); clear HO_5; clear HK; clear HB; clear HI0; have HO_5 := n0_; have HK := n1_; have HB := n2_; have HI0 := n3_; clear n0_ n1_ n2_ n3_; (try clear hb); (try clear hb2); (try clear hk); (try clear hi); obtain ⟨Ao13, co13, eo13⟩ := Kd.R_slice HO_5.out; subst eo13) | ((with_reducible refine gate_callee (f := 20) rfl ?_); refine goesL_ (some 21) rfl rfl Tryd.func20 (by kernel_rfl) rfl #[.slice Ao13 x5_1.length co13, .string t450, .string t453] rfl (by (try simp only [List.map_toArray, List.map_cons, List.map_nil]); first | done | rfl | (simp only [List.length_drop, List.length_take]; rfl)) ?_; (with_reducible refine (spec_LabelSet.calls k1 _ _ x5_1 t450 t453 t456 t457 _ ?side1 ?side2 A10.out).mono ?_); (case side1 => repeat (first | exact (Kd.R_reads' HO_5.out).2.2 | (with_reducible refine Kd.C_alloc ?_ _) | (with_reducible refine Kd.C_drewN ?_ _) | (with_reducible refine Kd.C_drew ?_))); (case side2 => exact (Kd.R_reads' HO_5.out).2.1); rintro e w14 ⟨v458, rfl, ho0, hb⟩; refine ⟨_, rfl, ?_⟩; have n0_ := Aside0.mk (Kd.R_elder' (by (with_reducible repeat (first | apply Kd.R_alloc | apply Kd.R_drewN | apply Kd.R_drew)); exact HO_5.out) (Kd.R_base ho0) hb); have n1_ := Aside0.mk (Kd.R_lower (Kd.R_new' ho0 (Kd.R_lt (by (with_reducible repeat (first | apply Kd.R_alloc | apply Kd.R_drewN | apply Kd.R_drew)); exact HO_5.out))) (keep_size (w := w) (g := g) (row := none) (by repeat (first | (with_reducible first | exact HK.out | apply KeepBut.set_ | apply keep_drewN | apply keep_drew | apply keep_alloc) | exact HK.out)))); have n2_ := Aside0.mk (IsS93.below (by repeat (first | (with_reducible first | exact HI0.out | apply IsS93.alloc | apply IsS93.drewN | apply IsS93.drew | apply IsS93.set_1 | apply IsS93.set_2) | exact HI0.out)) hb); have n3_ := Aside0.mk (KeepBut.trans (by repeat (first | (with_reducible first | exact HK.out | apply KeepBut.set_ | apply keep_drewN | apply keep_drew | apply keep_alloc) | exact HK.out)) (KeepBut.of_below hb g none) (.inl rfl)); have n4_ := Aside0.mk (below_step (by repeat (first | (with_reducible first | exact HB.out | apply below_alloc | apply pw_below_drewN | apply below_drew1 | refine below_set ?_ (IsS93.ge HI0.out)) | exact HB.out)) hb); clear HO_5; clear HI0; clear HK; clear HB; have HO_5 := n0_; have HO459 := n1_; have HI0 := n2_; have HK := n3_; have HB := n4_; clear n0_ n1_ n2_ n3_ n4_; (try clear hb); (try clear hb2); (try clear hk); (try clear hi); (try clear ho0)))
    go_roundg k1
    case measure => have := HK1.out; omega
    case rel => exact ⟨(t456), (wrap64 (x6_1 - 1)), (t454), (t455), (by first | rfl | (simp; done) | (simp [*]; done)), H', ⟨by have := HK1.out; omega⟩, ⟨by (with_reducible repeat (first | apply Kd.R_alloc | apply Kd.R_drewN | apply Kd.R_drew)); exact Kd.R_mono HO459.out (fun _ hk => trivial)⟩, ⟨by repeat (first | (with_reducible first | exact HI0.out | apply IsS93.alloc | apply IsS93.drewN | apply IsS93.drew | apply IsS93.set_1 | apply IsS93.set_2) | exact HI0.out)⟩, ⟨by repeat (first | (with_reducible first | exact HK.out | apply KeepBut.set_ | apply keep_drewN | apply keep_drew | apply keep_alloc) | exact HK.out)⟩, ⟨by repeat (first | (with_reducible first | exact HB.out | apply below_alloc | apply pw_below_drewN | apply below_drew1 | refine below_set ?_ (IsS93.ge HI0.out)) | exact HB.out)⟩⟩
   ·rw [if_neg c7] at H
    have c7b0 : decide (0 < x6_1) = false := decide_eq_false c7
    clear c7
    simp only [Option.some.injEq, Prod.mk.injEq] at H
    obtain ⟨rfl, rfl, rfl⟩ := H
    go_wp2
    go_ret
    exact ⟨_, by first | rfl | (simp [errW_none, errW_some] <;> rfl) | (simp [*, errW_none, errW_some] <;> rfl), by (with_reducible repeat (first | apply Kd.R_alloc | apply Kd.R_drewN | apply Kd.R_drew)); exact HO_5.out, by repeat (first | (with_reducible first | exact HI0.out | apply IsS93.alloc | apply IsS93.drewN | apply IsS93.drew | apply IsS93.set_1 | apply IsS93.set_2) | exact HI0.out), by repeat (first | (with_reducible first | exact HB.out | apply below_alloc | apply pw_below_drewN | apply below_drew1 | refine below_set ?_ (IsS93.ge HI0.out)) | exact HB.out), by repeat (first | (with_reducible first | exact HK.out | apply KeepBut.set_ | apply keep_drewN | apply keep_drew | apply keep_alloc) | exact HK.out)⟩

end Go.Proofs.YtpjpnppoejnafaaDoor.G
