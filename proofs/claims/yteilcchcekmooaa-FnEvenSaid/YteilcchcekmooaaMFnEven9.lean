import Derived.Test.YteilcchcekmooaaMFnEven1
import Derived.Test.YteilcchcekmooaaMFnEven3
import Derived.Test.YteilcchcekmooaaMFnEven8
import Derived.Test.YteilcchcekmooaaMFnEven6
import Derived.Test.YteilcchcekmooaaMFnEven7
/- G8 -/
-- Laid by wip/g/gprint.py out of the translation, by the kit's print program. Lean checks it.
namespace Go.Proofs.Yteilcchcekmooaa.G
open Go.RowKit Go.Proofs.YteilcchcekmooaaW.PrintWords Go.Proofs.YteilcchcekmooaaW.PrintLast Go.Proofs.YteilcchcekmooaaW.PrintMore
attribute [local go_sem] max2_int min2_int max_two min_two max_three min_three max_four min_four   -- for this text's walks alone
set_option linter.unusedVariables false
set_option linter.unusedSimpArgs false

/-! ### impl_Divide: function 8 -/
mutual
def impl_Divide.l0 : Nat → Int → List Int → List Int → List Int → Option (List Int)
  | 0, _, _, _, _ => none
  | k + 1, x0, x1, x2, x7 => if x0 > 0 then (impl_Divide.l1 k x0 x1 x2 x7 (([] : List Int)) x1 (x1.length : Int) 0) else (some x7)
def impl_Divide.l1 : Nat → Int → List Int → List Int → List Int → List Int → List Int → Int → Int → Option (List Int)
  | 0, _, _, _, _, _, _, _, _ => none
  | k + 1, x0, x1, x2, x7, x8, x25, x26, x27 => if x27 < x26 then (if 0 ≤ x27 then (if x27 < (x25.length : Int) then (if (rd x25 x27) > 0 then (if x27 < (x7.length : Int) then (if x27 < (x2.length : Int) then (if (rd x7 x27) < (rd x2 x27) then (if x8.length < 17592186044416 then (impl_Divide.l1 k x0 x1 x2 x7 (x8 ++ [x27]) x25 x26 (wrap64 (x27 + 1))) else (none)) else (impl_Divide.l1 k x0 x1 x2 x7 x8 x25 x26 (wrap64 (x27 + 1)))) else (none)) else (none)) else (impl_Divide.l1 k x0 x1 x2 x7 x8 x25 x26 (wrap64 (x27 + 1)))) else (none)) else (none)) else (if (x8.length : Int) = 0 then (some x7) else ((impl_quotas.f x0 x1 x8).bind fun t183 => (impl_Divide.l2 k x0 x1 x2 x7 x8 t183 (t183.length : Int) 0)))
def impl_Divide.l2 : Nat → Int → List Int → List Int → List Int → List Int → List Int → Int → Int → Option (List Int)
  | 0, _, _, _, _, _, _, _, _ => none
  | k + 1, x0, x1, x2, x7, x8, x56, x57, x58 => if x58 < x57 then (if 0 ≤ x58 then (if x58 < (x56.length : Int) then (if x58 < (x8.length : Int) then (if 0 ≤ (rd x8 x58) then (if (rd x8 x58) < (x2.length : Int) then (if (rd x8 x58) < (x7.length : Int) then (impl_Divide.l2 k (wrap64 (x0 - (mn (rd x56 x58) (wrap64 ((rd x2 (rd x8 x58)) - (rd x7 (rd x8 x58))))))) x1 x2 (x7.set ((rd x8 x58) : Int).toNat (wrap64 ((rd x7 (rd x8 x58)) + (mn (rd x56 x58) (wrap64 ((rd x2 (rd x8 x58)) - (rd x7 (rd x8 x58)))))))) x8 x56 x57 (wrap64 (x58 + 1))) else (none)) else (none)) else (none)) else (none)) else (none)) else (none)) else (impl_Divide.l0 k x0 x1 x2 x7)
end
def impl_Divide.f (k : Nat) (a0 : Int) (l1 : List Int) (l2 : List Int) : Option (List Int) := (impl_sharesOk.f a0 l1 l2).bind fun t170 => (if t170 = true then (if 0 ≤ (l1.length : Int) then (if ((l1.length : Int) : Int).toNat ≤ 35184372088832 then (impl_Divide.l0 k a0 l1 l2 (List.replicate ((l1.length : Int) : Int).toNat 0)) else (none)) else (none)) else (some ([] : List Int)))
set_option maxHeartbeats 8000000 in
set_option maxRecDepth 100000 in
theorem impl_Divide.calls (k : Nat) (a0 : Int) (A1 : Option Addr) (c1 : Nat) (l1 : List Int) (A2 : Option Addr) (c2 : Nat) (l2 : List Int) (r : List Int) (w : World) (hr1 : Kd.C (Kd.int .i64) w A1 l1.length l1) (hc1 : l1.length ≤ c1) (hr2 : Kd.C (Kd.int .i64) w A2 l2.length l2) (hc2 : l2.length ≤ c2) (h : impl_Divide.f k a0 l1 l2 = some r) :
    Calls Try.prog 8 #[.int .i64 a0, .slice A1 l1.length c1, .slice A2 l2.length c2] w fun e w' => ∃ v0_ : Value, e = .returned (v0_) ∧ Kd.R (Kd.int .i64) 3 w' w.heap.size (fun _ => True) v0_ r ∧ Below w.heap.size w w' := by
  have HR1 := Aside0.mk hr1
  have HC1 := Aside0.mk hc1
  clear hr1 hc1
  have HR2 := Aside0.mk hr2
  have HC2 := Aside0.mk hc2
  clear hr2 hc2
  have HB := Aside0.mk (Below.refl w.heap.size w)
  have H : ((impl_sharesOk.f a0 l1 l2).bind fun t170 => (if t170 = true then (if 0 ≤ (l1.length : Int) then (if ((l1.length : Int) : Int).toNat ≤ 35184372088832 then (impl_Divide.l0 k a0 l1 l2 (List.replicate ((l1.length : Int) : Int).toNat 0)) else (none)) else (none)) else (some ([] : List Int)))) = some r := h
  clear h
  replace H := Option.bind_eq_some_iff.mp H
  obtain ⟨t170, A40, H⟩ := H
  replace H : (if t170 = true then (if 0 ≤ (l1.length : Int) then (if ((l1.length : Int) : Int).toNat ≤ 35184372088832 then (impl_Divide.l0 k a0 l1 l2 (List.replicate ((l1.length : Int) : Int).toNat 0)) else (none)) else (none)) else (some ([] : List Int))) = some r := H
  have A4 := Aside0.mk A40
  clear A40
  by_cases c5 : t170 = true
  · subst c5
    have H1 : (if 0 ≤ (l1.length : Int) then (if ((l1.length : Int) : Int).toNat ≤ 35184372088832 then (impl_Divide.l0 k a0 l1 l2 (List.replicate ((l1.length : Int) : Int).toNat 0)) else (none)) else (none)) = some r := by rw [if_pos rfl] at H; exact H
    clear H
    have H := H1
    clear H1
    by_cases c6 : 0 ≤ (l1.length : Int)
    · rw [if_pos c6] at H
      have c6b0 := eq_true c6
      have c6b1 : decide (0 ≤ (l1.length : Int)) = true := decide_eq_true c6
      clear c6
      by_cases c7 : ((l1.length : Int) : Int).toNat ≤ 35184372088832
      · rw [if_pos c7] at H
        have c7b0 := eq_true c7
        have c7b1 : decide (((l1.length : Int) : Int).toNat ≤ 35184372088832) = true := decide_eq_true c7
        clear c7
        obtain ⟨y171, hy171⟩ : ∃ y_ : List Int, y_ = (List.replicate ((l1.length : Int) : Int).toNat 0) := ⟨_, rfl⟩
        replace H : (impl_Divide.l0 k a0 l1 l2 y171) = some r := by first | (rw [hy171]; with_reducible exact H) | (have H2_ := (Option.bind_some _ _).symm.trans H; rw [hy171]; with_reducible exact H2_) | (have H2_ := (Option.bind_some _ _).symm.trans H; with_reducible exact H2_) | with_reducible exact H | (rw [hy171]; exact H) | exact H
        have Ny171 := Aside0.mk hy171
        clear hy171
        have H' := Aside0.mk H
        clear H
        go_enter Try.func8, Try.ntmps8
        go_wp2_with (first | (go_at_call 22; (with_reducible refine (impl_sharesOk.calls a0 _ _ l1 _ _ l2 true _ ?side1 ?side2 ?side3 ?side4 A4.out).mono ?_); (case side1 => repeat (first | exact HR1.out | (with_reducible refine Kd.C_alloc ?_ _) | (with_reducible refine Kd.C_drewN ?_ _) | (with_reducible refine Kd.C_drew ?_))); (case side2 => exact HC1.out); (case side3 => repeat (first | exact HR2.out | (with_reducible refine Kd.C_alloc ?_ _) | (with_reducible refine Kd.C_drewN ?_ _) | (with_reducible refine Kd.C_drew ?_))); (case side4 => exact HC2.out); rintro e w8 ⟨rfl, hb⟩; have n0_ := Aside0.mk (below_step (by repeat (first | (with_reducible first | exact HB.out | apply below_alloc | apply pw_below_drewN | apply below_drew1) | exact HB.out)) hb); clear HB; have HB := n0_; clear n0_; (try clear hb); (try clear hb2); (try clear hk); (try clear hi)) | ((with_reducible refine gate_dst (N := 21) rfl ?_); refine Kd.R_make (Kd.int .i64) _ 3 rfl (N := 21) rfl 22 _ _ rfl (l1.length : Int) rfl rfl Try.underlying22 (.int .i64 0) 8 info3 rfl (by decide) (by omega) 0 (ok := fun _ => True) (okp := fun _ => True) rfl (fun _ hk => hk) trivial (of_decide_eq_true (by first | (with_reducible assumption) | assumption)) (Nat.le_trans (Nat.mul_le_mul_right _ (of_decide_eq_true (by first | (with_reducible assumption) | assumption) : (l1.length : Int).toNat ≤ 35184372088832)) (by omega)) (Below.refl _ _) (Nat.le_refl _) ?_; intro v172 w9 ho10 hb hg_ hnew_; clear hg_ hnew_; (first | rw [← Ny171.out] at ho10 | (simp only [Int.reduceToNat] at ho10; rw [← Ny171.out] at ho10)); have n0_ := Aside0.mk (Kd.R_lower ho10 (below_size (by repeat (first | (with_reducible first | exact HB.out | apply below_alloc | apply pw_below_drewN | apply below_drew1) | exact HB.out)))); have n1_ := Aside0.mk (below_step (by repeat (first | (with_reducible first | exact HB.out | apply below_alloc | apply pw_below_drewN | apply below_drew1) | exact HB.out)) hb); clear HB; have HO173 := n0_; have HB := n1_; clear n0_ n1_; clear hb ho10))
        repeat (go_quiet (first | (go_at_call 22; (with_reducible refine (impl_sharesOk.calls a0 _ _ l1 _ _ l2 true _ ?side1 ?side2 ?side3 ?side4 A4.out).mono ?_); (case side1 => repeat (first | exact HR1.out | (with_reducible refine Kd.C_alloc ?_ _) | (with_reducible refine Kd.C_drewN ?_ _) | (with_reducible refine Kd.C_drew ?_))); (case side2 => exact HC1.out); (case side3 => repeat (first | exact HR2.out | (with_reducible refine Kd.C_alloc ?_ _) | (with_reducible refine Kd.C_drewN ?_ _) | (with_reducible refine Kd.C_drew ?_))); (case side4 => exact HC2.out); rintro e w8 ⟨rfl, hb⟩; have n0_ := Aside0.mk (below_step (by repeat (first | (with_reducible first | exact HB.out | apply below_alloc | apply pw_below_drewN | apply below_drew1) | exact HB.out)) hb); clear HB; have HB := n0_; clear n0_; (try clear hb); (try clear hb2); (try clear hk); (try clear hi)) | ((with_reducible refine gate_dst (N := 21) rfl ?_); refine Kd.R_make (Kd.int .i64) _ 3 rfl (N := 21) rfl 22 _ _ rfl (l1.length : Int) rfl rfl Try.underlying22 (.int .i64 0) 8 info3 rfl (by decide) (by omega) 0 (ok := fun _ => True) (okp := fun _ => True) rfl (fun _ hk => hk) trivial (of_decide_eq_true (by first | (with_reducible assumption) | assumption)) (Nat.le_trans (Nat.mul_le_mul_right _ (of_decide_eq_true (by first | (with_reducible assumption) | assumption) : (l1.length : Int).toNat ≤ 35184372088832)) (by omega)) (Below.refl _ _) (Nat.le_refl _) ?_; intro v172 w9 ho10 hb hg_ hnew_; clear hg_ hnew_; (first | rw [← Ny171.out] at ho10 | (simp only [Int.reduceToNat] at ho10; rw [← Ny171.out] at ho10)); have n0_ := Aside0.mk (Kd.R_lower ho10 (below_size (by repeat (first | (with_reducible first | exact HB.out | apply below_alloc | apply pw_below_drewN | apply below_drew1) | exact HB.out)))); have n1_ := Aside0.mk (below_step (by repeat (first | (with_reducible first | exact HB.out | apply below_alloc | apply pw_below_drewN | apply below_drew1) | exact HB.out)) hb); clear HB; have HO173 := n0_; have HB := n1_; clear n0_ n1_; clear hb ho10)); try go_wp2_with (first | (go_at_call 22; (with_reducible refine (impl_sharesOk.calls a0 _ _ l1 _ _ l2 true _ ?side1 ?side2 ?side3 ?side4 A4.out).mono ?_); (case side1 => repeat (first | exact HR1.out | (with_reducible refine Kd.C_alloc ?_ _) | (with_reducible refine Kd.C_drewN ?_ _) | (with_reducible refine Kd.C_drew ?_))); (case side2 => exact HC1.out); (case side3 => repeat (first | exact HR2.out | (with_reducible refine Kd.C_alloc ?_ _) | (with_reducible refine Kd.C_drewN ?_ _) | (with_reducible refine Kd.C_drew ?_))); (case side4 => exact HC2.out); rintro e w8 ⟨rfl, hb⟩; have n0_ := Aside0.mk (below_step (by repeat (first | (with_reducible first | exact HB.out | apply below_alloc | apply pw_below_drewN | apply below_drew1) | exact HB.out)) hb); clear HB; have HB := n0_; clear n0_; (try clear hb); (try clear hb2); (try clear hk); (try clear hi)) | ((with_reducible refine gate_dst (N := 21) rfl ?_); refine Kd.R_make (Kd.int .i64) _ 3 rfl (N := 21) rfl 22 _ _ rfl (l1.length : Int) rfl rfl Try.underlying22 (.int .i64 0) 8 info3 rfl (by decide) (by omega) 0 (ok := fun _ => True) (okp := fun _ => True) rfl (fun _ hk => hk) trivial (of_decide_eq_true (by first | (with_reducible assumption) | assumption)) (Nat.le_trans (Nat.mul_le_mul_right _ (of_decide_eq_true (by first | (with_reducible assumption) | assumption) : (l1.length : Int).toNat ≤ 35184372088832)) (by omega)) (Below.refl _ _) (Nat.le_refl _) ?_; intro v172 w9 ho10 hb hg_ hnew_; clear hg_ hnew_; (first | rw [← Ny171.out] at ho10 | (simp only [Int.reduceToNat] at ho10; rw [← Ny171.out] at ho10)); have n0_ := Aside0.mk (Kd.R_lower ho10 (below_size (by repeat (first | (with_reducible first | exact HB.out | apply below_alloc | apply pw_below_drewN | apply below_drew1) | exact HB.out)))); have n1_ := Aside0.mk (below_step (by repeat (first | (with_reducible first | exact HB.out | apply below_alloc | apply pw_below_drewN | apply below_drew1) | exact HB.out)) hb); clear HB; have HO173 := n0_; have HB := n1_; clear n0_ n1_; clear hb ho10)))
        go_loopg [0] k (fun kq v0 w' => ∃ (x0_1 : Int) (x7_1 : List Int), v0 = .int .i64 x0_1 ∧ Aside0 (impl_Divide.l0 kq x0_1 l1 l2 x7_1 = some r) ∧ Aside0 (kq ≤ k) ∧ Aside0 (Kd.R (Kd.int .i64) 3 w' w.heap.size (fun _ => True) v172 x7_1) ∧ Aside0 (Below w.heap.size w w'))
        case atStart => exact ⟨(a0), (y171), (by first | rfl | (simp; done) | (simp [*]; done)), H', ⟨Nat.le_refl _⟩, ⟨by (with_reducible repeat (first | apply Kd.R_alloc | apply Kd.R_drewN | apply Kd.R_drew)); exact HO173.out⟩, ⟨by repeat (first | (with_reducible first | exact HB.out | apply below_alloc | apply pw_below_drewN | apply below_drew1) | exact HB.out)⟩⟩
        case round =>
          clear H'
          try clear c1
          try clear c2
          try clear p2
          try clear c5
          try clear c6
          try clear c6b0
          try clear c6b1
          try clear c7
          try clear c7b0
          try clear c7b1
          try clear c8
          obtain ⟨x0_1, x7_1, rfl, HA, HK1, HO_7, HB⟩ := hrel
          cases gk with
          | zero => exact absurd HA.out (by simp [impl_Divide.l0])
          | succ k1 =>
            have H := HA.out
            clear HA
            simp only [impl_Divide.l0] at H
            by_cases c11 : x0_1 > 0
            · rw [if_pos c11] at H
              have c11b0 : decide (0 < x0_1) = true := decide_eq_true c11
              clear c11
              obtain ⟨y174, hy174⟩ : ∃ y_ : List Int, y_ = (([] : List Int)) := ⟨_, rfl⟩
              replace H : (impl_Divide.l1 k1 x0_1 l1 l2 x7_1 y174 l1 (l1.length : Int) 0) = some r := by first | (rw [hy174]; with_reducible exact H) | (have H2_ := (Option.bind_some _ _).symm.trans H; rw [hy174]; with_reducible exact H2_) | (have H2_ := (Option.bind_some _ _).symm.trans H; with_reducible exact H2_) | with_reducible exact H | (rw [hy174]; exact H) | exact H
              have Ny174 := Aside0.mk hy174
              clear hy174
              have H' := Aside0.mk H
              clear H
              go_wp2_with (first | ((with_reducible refine gate_dst (N := 24) rfl ?_); refine Kd.R_lit (Kd.int .i64) _ 3 ?hg (N := 24) ?hd (xs := ([] : List Int)) (inner := []) (ok := fun _ => True) (okp := fun _ => True) ?hr ?hp (fun _ hk => hk) trivial (Below.refl _ _) (Nat.le_refl _) (by simp) ?_; (case hd => rfl); (case hg => rfl); (case hr => first | (go_simp; done) | (go_simp; rfl)); (case hp => exact (Reps.none _ _)); intro v175 w12 ho13 hb hg_ hnew_; clear hg_ hnew_; (first | rw [← Ny174.out] at ho13 | (simp only [Int.reduceToNat] at ho13; rw [← Ny174.out] at ho13)); have n0_ := Aside0.mk (Kd.R_elder' (by (with_reducible repeat (first | apply Kd.R_alloc | apply Kd.R_drewN | apply Kd.R_drew)); exact HO_7.out) (Kd.R_base ho13) hb); have n1_ := Aside0.mk (Kd.R_lower (Kd.R_new' ho13 (Kd.R_lt (by (with_reducible repeat (first | apply Kd.R_alloc | apply Kd.R_drewN | apply Kd.R_drew)); exact HO_7.out))) (below_size (by repeat (first | (with_reducible first | exact HB.out | apply below_alloc | apply pw_below_drewN | apply below_drew1) | exact HB.out)))); have n2_ := Aside0.mk (below_step (by repeat (first | (with_reducible first | exact HB.out | apply below_alloc | apply pw_below_drewN | apply below_drew1) | exact HB.out)) hb); clear HO_7; clear HB; have HO_7 := n0_; have HO176 := n1_; have HB := n2_; clear n0_ n1_ n2_; clear hb ho13))
              repeat (go_quiet (first | ((with_reducible refine gate_dst (N := 24) rfl ?_); refine Kd.R_lit (Kd.int .i64) _ 3 ?hg (N := 24) ?hd (xs := ([] : List Int)) (inner := []) (ok := fun _ => True) (okp := fun _ => True) ?hr ?hp (fun _ hk => hk) trivial (Below.refl _ _) (Nat.le_refl _) (by simp) ?_; (case hd => rfl); (case hg => rfl); (case hr => first | (go_simp; done) | (go_simp; rfl)); (case hp => exact (Reps.none _ _)); intro v175 w12 ho13 hb hg_ hnew_; clear hg_ hnew_; (first | rw [← Ny174.out] at ho13 | (simp only [Int.reduceToNat] at ho13; rw [← Ny174.out] at ho13)); have n0_ := Aside0.mk (Kd.R_elder' (by (with_reducible repeat (first | apply Kd.R_alloc | apply Kd.R_drewN | apply Kd.R_drew)); exact HO_7.out) (Kd.R_base ho13) hb); have n1_ := Aside0.mk (Kd.R_lower (Kd.R_new' ho13 (Kd.R_lt (by (with_reducible repeat (first | apply Kd.R_alloc | apply Kd.R_drewN | apply Kd.R_drew)); exact HO_7.out))) (below_size (by repeat (first | (with_reducible first | exact HB.out | apply below_alloc | apply pw_below_drewN | apply below_drew1) | exact HB.out)))); have n2_ := Aside0.mk (below_step (by repeat (first | (with_reducible first | exact HB.out | apply below_alloc | apply pw_below_drewN | apply below_drew1) | exact HB.out)) hb); clear HO_7; clear HB; have HO_7 := n0_; have HO176 := n1_; have HB := n2_; clear n0_ n1_ n2_; clear hb ho13)); try go_wp2_with (first | ((with_reducible refine gate_dst (N := 24) rfl ?_); refine Kd.R_lit (Kd.int .i64) _ 3 ?hg (N := 24) ?hd (xs := ([] : List Int)) (inner := []) (ok := fun _ => True) (okp := fun _ => True) ?hr ?hp (fun _ hk => hk) trivial (Below.refl _ _) (Nat.le_refl _) (by simp) ?_; (case hd => rfl); (case hg => rfl); (case hr => first | (go_simp; done) | (go_simp; rfl)); (case hp => exact (Reps.none _ _)); intro v175 w12 ho13 hb hg_ hnew_; clear hg_ hnew_; (first | rw [← Ny174.out] at ho13 | (simp only [Int.reduceToNat] at ho13; rw [← Ny174.out] at ho13)); have n0_ := Aside0.mk (Kd.R_elder' (by (with_reducible repeat (first | apply Kd.R_alloc | apply Kd.R_drewN | apply Kd.R_drew)); exact HO_7.out) (Kd.R_base ho13) hb); have n1_ := Aside0.mk (Kd.R_lower (Kd.R_new' ho13 (Kd.R_lt (by (with_reducible repeat (first | apply Kd.R_alloc | apply Kd.R_drewN | apply Kd.R_drew)); exact HO_7.out))) (below_size (by repeat (first | (with_reducible first | exact HB.out | apply below_alloc | apply pw_below_drewN | apply below_drew1) | exact HB.out)))); have n2_ := Aside0.mk (below_step (by repeat (first | (with_reducible first | exact HB.out | apply below_alloc | apply pw_below_drewN | apply below_drew1) | exact HB.out)) hb); clear HO_7; clear HB; have HO_7 := n0_; have HO176 := n1_; have HB := n2_; clear n0_ n1_ n2_; clear hb ho13)))
              go_loopg [8, 27] k1 (fun kq v8 v27 w' => ∃ (x8_2 : List Int) (x27_2 : Int), v27 = .int .i64 x27_2 ∧ Aside0 (impl_Divide.l1 kq x0_1 l1 l2 x7_1 x8_2 l1 (l1.length : Int) x27_2 = some r) ∧ Aside0 (kq ≤ k1) ∧ Aside0 (Kd.R (Kd.int .i64) 3 w' w.heap.size (fun k_ => some k_ ≠ (v8 : Value).ownBlock) v172 x7_1) ∧ Aside0 (Kd.R (Kd.int .i64) 3 w' w.heap.size (fun k_ => some k_ ≠ (v172 : Value).ownBlock) v8 x8_2) ∧ Aside0 (Below w.heap.size w w'))
              case atStart => exact ⟨(y174), (0), (by first | rfl | (simp; done) | (simp [*]; done)), H', ⟨Nat.le_refl _⟩, ⟨by (with_reducible repeat (first | apply Kd.R_alloc | apply Kd.R_drewN | apply Kd.R_drew)); exact Kd.R_mono HO_7.out (fun _ hk => hk.2)⟩, ⟨by (with_reducible repeat (first | apply Kd.R_alloc | apply Kd.R_drewN | apply Kd.R_drew)); exact Kd.R_mono HO176.out (fun _ hk => hk.2)⟩, ⟨by repeat (first | (with_reducible first | exact HB.out | apply below_alloc | apply pw_below_drewN | apply below_drew1) | exact HB.out)⟩⟩
              case round =>
                clear H'
                try clear c1
                try clear c2
                try clear p2
                try clear c5
                try clear c6
                try clear c6b0
                try clear c6b1
                try clear c7
                try clear c7b0
                try clear c7b1
                try clear c8
                try clear c11
                try clear c11b0
                try clear p2
                obtain ⟨x8_2, x27_2, rfl, HA, HK2, HO_7, HO_8, HB⟩ := hrel
                cases gk with
                | zero => exact absurd HA.out (by simp [impl_Divide.l1])
                | succ k2 =>
                  have H := HA.out
                  clear HA
                  simp only [impl_Divide.l1] at H
                  by_cases c14 : x27_2 < (l1.length : Int)
                  · rw [if_pos c14] at H
                    have c14b0 : decide (x27_2 < (l1.length : Int)) = true := decide_eq_true c14
                    clear c14
                    by_cases c15 : 0 ≤ x27_2
                    · rw [if_pos c15] at H
                      have c15b0 : decide (0 ≤ x27_2) = true := decide_eq_true c15
                      clear c15
                      by_cases c16 : x27_2 < (l1.length : Int)
                      · rw [if_pos c16] at H
                        have c16b0 : decide (x27_2 < (l1.length : Int)) = true := decide_eq_true c16
                        clear c16
                        by_cases c17 : (rd l1 x27_2) > 0
                        · rw [if_pos c17] at H
                          have c17b0 : decide (0 < (rd l1 x27_2)) = true := decide_eq_true c17
                          clear c17
                          by_cases c18 : x27_2 < (x7_1.length : Int)
                          · rw [if_pos c18] at H
                            have c18b0 : decide (x27_2 < (x7_1.length : Int)) = true := decide_eq_true c18
                            clear c18
                            by_cases c19 : x27_2 < (l2.length : Int)
                            · rw [if_pos c19] at H
                              have c19b0 : decide (x27_2 < (l2.length : Int)) = true := decide_eq_true c19
                              clear c19
                              by_cases c20 : (rd x7_1 x27_2) < (rd l2 x27_2)
                              · rw [if_pos c20] at H
                                have c20b0 : decide ((rd x7_1 x27_2) < (rd l2 x27_2)) = true := decide_eq_true c20
                                clear c20
                                by_cases c21 : x8_2.length < 17592186044416
                                · rw [if_pos c21] at H
                                  have LMc21 := Aside0.mk c21
                                  clear c21
                                  obtain ⟨y180, hy180⟩ : ∃ y_ : List Int, y_ = (x8_2 ++ [x27_2]) := ⟨_, rfl⟩
                                  replace H : (impl_Divide.l1 k2 x0_1 l1 l2 x7_1 y180 l1 (l1.length : Int) (wrap64 (x27_2 + 1))) = some r := by first | (rw [hy180]; with_reducible exact H) | (have H2_ := (Option.bind_some _ _).symm.trans H; rw [hy180]; with_reducible exact H2_) | (have H2_ := (Option.bind_some _ _).symm.trans H; with_reducible exact H2_) | with_reducible exact H | (rw [hy180]; exact H) | exact H
                                  have Ny180 := Aside0.mk hy180
                                  clear hy180
                                  have H' := Aside0.mk H
                                  clear H
                                  have p177 : 0 ≤ (x27_2 : Int) := of_decide_eq_true (by first | (with_reducible assumption) | assumption)
                                  have q177 : x27_2 < (l1.length : Int) := of_decide_eq_true (by first | (with_reducible assumption) | assumption)
                                  obtain ⟨ad177, e177, hx177_0⟩ := Kd.at_int HR1.out x27_2 p177 q177
                                  cases e177
                                  replace hx177_0 := (HB.out.cell (World.block_lt_of_cell? w _ hx177_0)).trans hx177_0
                                  replace p177 := eq_true p177
                                  replace q177 := eq_true q177
                                  obtain ⟨Ao22, co22, eo22⟩ := Kd.R_slice HO_7.out
                                  subst eo22
                                  have p178 : 0 ≤ (x27_2 : Int) := of_decide_eq_true (by first | (with_reducible assumption) | assumption)
                                  have q178 : x27_2 < (x7_1.length : Int) := of_decide_eq_true (by first | (with_reducible assumption) | assumption)
                                  obtain ⟨ad178, e178, hx178_0⟩ := Kd.at_int (Kd.R_reads' HO_7.out).2.2 x27_2 p178 q178
                                  cases e178
                                  replace p178 := eq_true p178
                                  replace q178 := eq_true q178
                                  have p179 : 0 ≤ (x27_2 : Int) := of_decide_eq_true (by first | (with_reducible assumption) | assumption)
                                  have q179 : x27_2 < (l2.length : Int) := of_decide_eq_true (by first | (with_reducible assumption) | assumption)
                                  obtain ⟨ad179, e179, hx179_0⟩ := Kd.at_int HR2.out x27_2 p179 q179
                                  cases e179
                                  replace hx179_0 := (HB.out.cell (World.block_lt_of_cell? w _ hx179_0)).trans hx179_0
                                  replace p179 := eq_true p179
                                  replace q179 := eq_true q179
                                  go_wp2_with (first | ((with_reducible refine gate_builtin (b := .append) (xs := #[.tmp 45, .tmp 47]) rfl ?_); at_builtin; refine Kd.R_append (Kd.int .i64) (w0 := w) w.heap.size rfl (.tmp 45) (.tmp 47) 22 3 (.int .i64 0) 8 rfl Try.underlying22 info3 rfl (by decide) (by omega) u8 x8_2 x27_2 [.int .i64 x27_2] (fun k_ => some k_ ≠ (.slice (some ad178) x7_1.length co22 : Value).ownBlock) (fun _ => False) rfl rfl ?aP (fun _ hk => hk.elim) ?aF ?aO ?aB ?aS ?aL ?_; (case aP => exact rfl); (case aB => exact (by repeat (first | (with_reducible first | exact HB.out | apply below_alloc | apply pw_below_drewN | apply below_drew1) | exact HB.out))); (case aF => exact (fun k_ hk => Kd.fresh' (Kd.R_lt (by (with_reducible repeat (first | apply Kd.R_alloc | apply Kd.R_drewN | apply Kd.R_drew)); exact HO_7.out)) k_ hk)); (case aO => exact (by (with_reducible repeat (first | apply Kd.R_alloc | apply Kd.R_drewN | apply Kd.R_drew)); exact HO_8.out)); (case aS => exact (below_size (by repeat (first | (with_reducible first | exact HB.out | apply below_alloc | apply pw_below_drewN | apply below_drew1) | exact HB.out)))); (case aL => have := LMc21.out; omega); intro v181 w23 ho hb hg hat; rw [← Ny180.out] at ho; have n0_ := Aside0.mk (Kd.R_after (ok := (fun _ => True)) (by (with_reducible repeat (first | apply Kd.R_alloc | apply Kd.R_drewN | apply Kd.R_drew)); exact Kd.R_mono HO_7.out (fun _ hk => ⟨trivial, hk⟩)) hg hat); have n1_ := Aside0.mk (hb); have n2_ := Aside0.mk (ho); clear HO_7; clear HB; clear HO_8; have HO_7 := n0_; have HB := n1_; have HO182 := n2_; clear n0_ n1_ n2_; clear ho hb hg hat))
                                  repeat (go_quiet (first | ((with_reducible refine gate_builtin (b := .append) (xs := #[.tmp 45, .tmp 47]) rfl ?_); at_builtin; refine Kd.R_append (Kd.int .i64) (w0 := w) w.heap.size rfl (.tmp 45) (.tmp 47) 22 3 (.int .i64 0) 8 rfl Try.underlying22 info3 rfl (by decide) (by omega) u8 x8_2 x27_2 [.int .i64 x27_2] (fun k_ => some k_ ≠ (.slice (some ad178) x7_1.length co22 : Value).ownBlock) (fun _ => False) rfl rfl ?aP (fun _ hk => hk.elim) ?aF ?aO ?aB ?aS ?aL ?_; (case aP => exact rfl); (case aB => exact (by repeat (first | (with_reducible first | exact HB.out | apply below_alloc | apply pw_below_drewN | apply below_drew1) | exact HB.out))); (case aF => exact (fun k_ hk => Kd.fresh' (Kd.R_lt (by (with_reducible repeat (first | apply Kd.R_alloc | apply Kd.R_drewN | apply Kd.R_drew)); exact HO_7.out)) k_ hk)); (case aO => exact (by (with_reducible repeat (first | apply Kd.R_alloc | apply Kd.R_drewN | apply Kd.R_drew)); exact HO_8.out)); (case aS => exact (below_size (by repeat (first | (with_reducible first | exact HB.out | apply below_alloc | apply pw_below_drewN | apply below_drew1) | exact HB.out)))); (case aL => have := LMc21.out; omega); intro v181 w23 ho hb hg hat; rw [← Ny180.out] at ho; have n0_ := Aside0.mk (Kd.R_after (ok := (fun _ => True)) (by (with_reducible repeat (first | apply Kd.R_alloc | apply Kd.R_drewN | apply Kd.R_drew)); exact Kd.R_mono HO_7.out (fun _ hk => ⟨trivial, hk⟩)) hg hat); have n1_ := Aside0.mk (hb); have n2_ := Aside0.mk (ho); clear HO_7; clear HB; clear HO_8; have HO_7 := n0_; have HB := n1_; have HO182 := n2_; clear n0_ n1_ n2_; clear ho hb hg hat)); try go_wp2_with (first | ((with_reducible refine gate_builtin (b := .append) (xs := #[.tmp 45, .tmp 47]) rfl ?_); at_builtin; refine Kd.R_append (Kd.int .i64) (w0 := w) w.heap.size rfl (.tmp 45) (.tmp 47) 22 3 (.int .i64 0) 8 rfl Try.underlying22 info3 rfl (by decide) (by omega) u8 x8_2 x27_2 [.int .i64 x27_2] (fun k_ => some k_ ≠ (.slice (some ad178) x7_1.length co22 : Value).ownBlock) (fun _ => False) rfl rfl ?aP (fun _ hk => hk.elim) ?aF ?aO ?aB ?aS ?aL ?_; (case aP => exact rfl); (case aB => exact (by repeat (first | (with_reducible first | exact HB.out | apply below_alloc | apply pw_below_drewN | apply below_drew1) | exact HB.out))); (case aF => exact (fun k_ hk => Kd.fresh' (Kd.R_lt (by (with_reducible repeat (first | apply Kd.R_alloc | apply Kd.R_drewN | apply Kd.R_drew)); exact HO_7.out)) k_ hk)); (case aO => exact (by (with_reducible repeat (first | apply Kd.R_alloc | apply Kd.R_drewN | apply Kd.R_drew)); exact HO_8.out)); (case aS => exact (below_size (by repeat (first | (with_reducible first | exact HB.out | apply below_alloc | apply pw_below_drewN | apply below_drew1) | exact HB.out)))); (case aL => have := LMc21.out; omega); intro v181 w23 ho hb hg hat; rw [← Ny180.out] at ho; have n0_ := Aside0.mk (Kd.R_after (ok := (fun _ => True)) (by (with_reducible repeat (first | apply Kd.R_alloc | apply Kd.R_drewN | apply Kd.R_drew)); exact Kd.R_mono HO_7.out (fun _ hk => ⟨trivial, hk⟩)) hg hat); have n1_ := Aside0.mk (hb); have n2_ := Aside0.mk (ho); clear HO_7; clear HB; clear HO_8; have HO_7 := n0_; have HB := n1_; have HO182 := n2_; clear n0_ n1_ n2_; clear ho hb hg hat)))
                                  go_roundg k2
                                  case measure => have := HK1.out; have := HK2.out; omega
                                  case rel => exact ⟨(y180), (wrap64 (x27_2 + 1)), (by first | rfl | (simp; done) | (simp [*]; done)), H', ⟨by have := HK1.out; have := HK2.out; omega⟩, ⟨by (with_reducible repeat (first | apply Kd.R_alloc | apply Kd.R_drewN | apply Kd.R_drew)); exact Kd.R_mono HO_7.out (fun _ hk => hk.2)⟩, ⟨by (with_reducible repeat (first | apply Kd.R_alloc | apply Kd.R_drewN | apply Kd.R_drew)); exact HO182.out⟩, ⟨by repeat (first | (with_reducible first | exact HB.out | apply below_alloc | apply pw_below_drewN | apply below_drew1) | exact HB.out)⟩⟩
                                · rw [if_neg c21] at H
                                  exact absurd H (by simp)
                              · rw [if_neg c20] at H
                                have c20b0 : decide ((rd x7_1 x27_2) < (rd l2 x27_2)) = false := decide_eq_false c20
                                clear c20
                                have H' := Aside0.mk H
                                clear H
                                have p177 : 0 ≤ (x27_2 : Int) := of_decide_eq_true (by first | (with_reducible assumption) | assumption)
                                have q177 : x27_2 < (l1.length : Int) := of_decide_eq_true (by first | (with_reducible assumption) | assumption)
                                obtain ⟨ad177, e177, hx177_0⟩ := Kd.at_int HR1.out x27_2 p177 q177
                                cases e177
                                replace hx177_0 := (HB.out.cell (World.block_lt_of_cell? w _ hx177_0)).trans hx177_0
                                replace p177 := eq_true p177
                                replace q177 := eq_true q177
                                obtain ⟨Ao24, co24, eo24⟩ := Kd.R_slice HO_7.out
                                subst eo24
                                have p178 : 0 ≤ (x27_2 : Int) := of_decide_eq_true (by first | (with_reducible assumption) | assumption)
                                have q178 : x27_2 < (x7_1.length : Int) := of_decide_eq_true (by first | (with_reducible assumption) | assumption)
                                obtain ⟨ad178, e178, hx178_0⟩ := Kd.at_int (Kd.R_reads' HO_7.out).2.2 x27_2 p178 q178
                                cases e178
                                replace p178 := eq_true p178
                                replace q178 := eq_true q178
                                have p179 : 0 ≤ (x27_2 : Int) := of_decide_eq_true (by first | (with_reducible assumption) | assumption)
                                have q179 : x27_2 < (l2.length : Int) := of_decide_eq_true (by first | (with_reducible assumption) | assumption)
                                obtain ⟨ad179, e179, hx179_0⟩ := Kd.at_int HR2.out x27_2 p179 q179
                                cases e179
                                replace hx179_0 := (HB.out.cell (World.block_lt_of_cell? w _ hx179_0)).trans hx179_0
                                replace p179 := eq_true p179
                                replace q179 := eq_true q179
                                go_wp2
                                repeat (go_quiet (fail); try go_wp2)
                                go_roundg k2
                                case measure => have := HK1.out; have := HK2.out; omega
                                case rel => exact ⟨(x8_2), (wrap64 (x27_2 + 1)), (by first | rfl | (simp; done) | (simp [*]; done)), H', ⟨by have := HK1.out; have := HK2.out; omega⟩, ⟨by (with_reducible repeat (first | apply Kd.R_alloc | apply Kd.R_drewN | apply Kd.R_drew)); exact HO_7.out⟩, ⟨by (with_reducible repeat (first | apply Kd.R_alloc | apply Kd.R_drewN | apply Kd.R_drew)); exact HO_8.out⟩, ⟨by repeat (first | (with_reducible first | exact HB.out | apply below_alloc | apply pw_below_drewN | apply below_drew1) | exact HB.out)⟩⟩
                            · rw [if_neg c19] at H
                              exact absurd H (by simp)
                          · rw [if_neg c18] at H
                            exact absurd H (by simp)
                        · rw [if_neg c17] at H
                          have c17b0 : decide (0 < (rd l1 x27_2)) = false := decide_eq_false c17
                          clear c17
                          have H' := Aside0.mk H
                          clear H
                          have p177 : 0 ≤ (x27_2 : Int) := of_decide_eq_true (by first | (with_reducible assumption) | assumption)
                          have q177 : x27_2 < (l1.length : Int) := of_decide_eq_true (by first | (with_reducible assumption) | assumption)
                          obtain ⟨ad177, e177, hx177_0⟩ := Kd.at_int HR1.out x27_2 p177 q177
                          cases e177
                          replace hx177_0 := (HB.out.cell (World.block_lt_of_cell? w _ hx177_0)).trans hx177_0
                          replace p177 := eq_true p177
                          replace q177 := eq_true q177
                          go_wp2
                          repeat (go_quiet (fail); try go_wp2)
                          go_roundg k2
                          case measure => have := HK1.out; have := HK2.out; omega
                          case rel => exact ⟨(x8_2), (wrap64 (x27_2 + 1)), (by first | rfl | (simp; done) | (simp [*]; done)), H', ⟨by have := HK1.out; have := HK2.out; omega⟩, ⟨by (with_reducible repeat (first | apply Kd.R_alloc | apply Kd.R_drewN | apply Kd.R_drew)); exact HO_7.out⟩, ⟨by (with_reducible repeat (first | apply Kd.R_alloc | apply Kd.R_drewN | apply Kd.R_drew)); exact HO_8.out⟩, ⟨by repeat (first | (with_reducible first | exact HB.out | apply below_alloc | apply pw_below_drewN | apply below_drew1) | exact HB.out)⟩⟩
                      · rw [if_neg c16] at H
                        exact absurd H (by simp)
                    · rw [if_neg c15] at H
                      exact absurd H (by simp)
                  · rw [if_neg c14] at H
                    have c14b0 : decide (x27_2 < (l1.length : Int)) = false := decide_eq_false c14
                    clear c14
                    by_cases c25 : (x8_2.length : Int) = 0
                    · rw [if_pos c25] at H
                      have c25b0 : ((x8_2.length : Int) == 0) = true := beq_iff_eq.mpr c25
                      have c25b1 : ((x8_2.length : Int) != 0) = false := bne_eq_false_iff_eq.mpr c25
                      clear c25
                      obtain rfl := Option.some.inj H
                      obtain ⟨Ao26, co26, eo26⟩ := Kd.R_slice HO_8.out
                      subst eo26
                      go_wp2
                      repeat (go_quiet (fail); try go_wp2)
                      go_ret
                      exact ⟨_, by first | rfl | (simp [errW_none, errW_some] <;> rfl) | (simp [*, errW_none, errW_some] <;> rfl), by (with_reducible repeat (first | apply Kd.R_alloc | apply Kd.R_drewN | apply Kd.R_drew)); exact Kd.R_mono HO_7.out (fun _ hk => trivial), by repeat (first | (with_reducible first | exact HB.out | apply below_alloc | apply pw_below_drewN | apply below_drew1) | exact HB.out)⟩
                    · rw [if_neg c25] at H
                      have c25b0 : ((x8_2.length : Int) == 0) = false := beq_eq_false_iff_ne.mpr c25
                      have c25b1 : ((x8_2.length : Int) != 0) = true := bne_iff_ne.mpr c25
                      have c25b2 : ¬ (x8_2 = []) := fun h_ => c25 (by rw [h_]; rfl)
                      replace H := Option.bind_eq_some_iff.mp H
                      obtain ⟨t183, A270, H⟩ := H
                      replace H : (impl_Divide.l2 k2 x0_1 l1 l2 x7_1 x8_2 t183 (t183.length : Int) 0) = some r := H
                      have A27 := Aside0.mk A270
                      clear A270
                      have H' := Aside0.mk H
                      clear H
                      obtain ⟨Ao28, co28, eo28⟩ := Kd.R_slice HO_8.out
                      subst eo28
                      go_wp2_with (first | (go_at_call 23; (with_reducible refine (impl_quotas.calls x0_1 _ _ l1 _ _ x8_2 t183 _ ?side1 ?side2 ?side3 ?side4 A27.out).mono ?_); (case side1 => repeat (first | exact (Kd.C_below HR1.out HB.out) | (with_reducible refine Kd.C_alloc ?_ _) | (with_reducible refine Kd.C_drewN ?_ _) | (with_reducible refine Kd.C_drew ?_))); (case side2 => exact HC1.out); (case side3 => repeat (first | exact (Kd.R_reads' HO_8.out).2.2 | (with_reducible refine Kd.C_alloc ?_ _) | (with_reducible refine Kd.C_drewN ?_ _) | (with_reducible refine Kd.C_drew ?_))); (case side4 => exact (Kd.R_reads' HO_8.out).2.1); rintro e w29 ⟨v184, rfl, ho0, hb⟩; have n0_ := Aside0.mk (Kd.R_elder' (by (with_reducible repeat (first | apply Kd.R_alloc | apply Kd.R_drewN | apply Kd.R_drew)); exact HO_7.out) (Kd.R_base ho0) hb); have n1_ := Aside0.mk (Kd.R_elder' (by (with_reducible repeat (first | apply Kd.R_alloc | apply Kd.R_drewN | apply Kd.R_drew)); exact HO_8.out) (Kd.R_base ho0) hb); have n2_ := Aside0.mk (Kd.R_lower (Kd.R_new' (Kd.R_new' ho0 (Kd.R_lt (by (with_reducible repeat (first | apply Kd.R_alloc | apply Kd.R_drewN | apply Kd.R_drew)); exact HO_7.out))) (Kd.R_lt (by (with_reducible repeat (first | apply Kd.R_alloc | apply Kd.R_drewN | apply Kd.R_drew)); exact HO_8.out))) (below_size (by repeat (first | (with_reducible first | exact HB.out | apply below_alloc | apply pw_below_drewN | apply below_drew1) | exact HB.out)))); have n3_ := Aside0.mk (below_step (by repeat (first | (with_reducible first | exact HB.out | apply below_alloc | apply pw_below_drewN | apply below_drew1) | exact HB.out)) hb); clear HO_7; clear HO_8; clear HB; have HO_7 := n0_; have HO_8 := n1_; have HO185 := n2_; have HB := n3_; clear n0_ n1_ n2_ n3_; (try clear hb); (try clear hb2); (try clear hk); (try clear hi); (try clear ho0); obtain ⟨Ao30, co30, eo30⟩ := Kd.R_slice HO185.out; subst eo30))
                      repeat (go_quiet (first | (go_at_call 23; (with_reducible refine (impl_quotas.calls x0_1 _ _ l1 _ _ x8_2 t183 _ ?side1 ?side2 ?side3 ?side4 A27.out).mono ?_); (case side1 => repeat (first | exact (Kd.C_below HR1.out HB.out) | (with_reducible refine Kd.C_alloc ?_ _) | (with_reducible refine Kd.C_drewN ?_ _) | (with_reducible refine Kd.C_drew ?_))); (case side2 => exact HC1.out); (case side3 => repeat (first | exact (Kd.R_reads' HO_8.out).2.2 | (with_reducible refine Kd.C_alloc ?_ _) | (with_reducible refine Kd.C_drewN ?_ _) | (with_reducible refine Kd.C_drew ?_))); (case side4 => exact (Kd.R_reads' HO_8.out).2.1); rintro e w29 ⟨v184, rfl, ho0, hb⟩; have n0_ := Aside0.mk (Kd.R_elder' (by (with_reducible repeat (first | apply Kd.R_alloc | apply Kd.R_drewN | apply Kd.R_drew)); exact HO_7.out) (Kd.R_base ho0) hb); have n1_ := Aside0.mk (Kd.R_elder' (by (with_reducible repeat (first | apply Kd.R_alloc | apply Kd.R_drewN | apply Kd.R_drew)); exact HO_8.out) (Kd.R_base ho0) hb); have n2_ := Aside0.mk (Kd.R_lower (Kd.R_new' (Kd.R_new' ho0 (Kd.R_lt (by (with_reducible repeat (first | apply Kd.R_alloc | apply Kd.R_drewN | apply Kd.R_drew)); exact HO_7.out))) (Kd.R_lt (by (with_reducible repeat (first | apply Kd.R_alloc | apply Kd.R_drewN | apply Kd.R_drew)); exact HO_8.out))) (below_size (by repeat (first | (with_reducible first | exact HB.out | apply below_alloc | apply pw_below_drewN | apply below_drew1) | exact HB.out)))); have n3_ := Aside0.mk (below_step (by repeat (first | (with_reducible first | exact HB.out | apply below_alloc | apply pw_below_drewN | apply below_drew1) | exact HB.out)) hb); clear HO_7; clear HO_8; clear HB; have HO_7 := n0_; have HO_8 := n1_; have HO185 := n2_; have HB := n3_; clear n0_ n1_ n2_ n3_; (try clear hb); (try clear hb2); (try clear hk); (try clear hi); (try clear ho0); obtain ⟨Ao30, co30, eo30⟩ := Kd.R_slice HO185.out; subst eo30)); try go_wp2_with (first | (go_at_call 23; (with_reducible refine (impl_quotas.calls x0_1 _ _ l1 _ _ x8_2 t183 _ ?side1 ?side2 ?side3 ?side4 A27.out).mono ?_); (case side1 => repeat (first | exact (Kd.C_below HR1.out HB.out) | (with_reducible refine Kd.C_alloc ?_ _) | (with_reducible refine Kd.C_drewN ?_ _) | (with_reducible refine Kd.C_drew ?_))); (case side2 => exact HC1.out); (case side3 => repeat (first | exact (Kd.R_reads' HO_8.out).2.2 | (with_reducible refine Kd.C_alloc ?_ _) | (with_reducible refine Kd.C_drewN ?_ _) | (with_reducible refine Kd.C_drew ?_))); (case side4 => exact (Kd.R_reads' HO_8.out).2.1); rintro e w29 ⟨v184, rfl, ho0, hb⟩; have n0_ := Aside0.mk (Kd.R_elder' (by (with_reducible repeat (first | apply Kd.R_alloc | apply Kd.R_drewN | apply Kd.R_drew)); exact HO_7.out) (Kd.R_base ho0) hb); have n1_ := Aside0.mk (Kd.R_elder' (by (with_reducible repeat (first | apply Kd.R_alloc | apply Kd.R_drewN | apply Kd.R_drew)); exact HO_8.out) (Kd.R_base ho0) hb); have n2_ := Aside0.mk (Kd.R_lower (Kd.R_new' (Kd.R_new' ho0 (Kd.R_lt (by (with_reducible repeat (first | apply Kd.R_alloc | apply Kd.R_drewN | apply Kd.R_drew)); exact HO_7.out))) (Kd.R_lt (by (with_reducible repeat (first | apply Kd.R_alloc | apply Kd.R_drewN | apply Kd.R_drew)); exact HO_8.out))) (below_size (by repeat (first | (with_reducible first | exact HB.out | apply below_alloc | apply pw_below_drewN | apply below_drew1) | exact HB.out)))); have n3_ := Aside0.mk (below_step (by repeat (first | (with_reducible first | exact HB.out | apply below_alloc | apply pw_below_drewN | apply below_drew1) | exact HB.out)) hb); clear HO_7; clear HO_8; clear HB; have HO_7 := n0_; have HO_8 := n1_; have HO185 := n2_; have HB := n3_; clear n0_ n1_ n2_ n3_; (try clear hb); (try clear hb2); (try clear hk); (try clear hi); (try clear ho0); obtain ⟨Ao30, co30, eo30⟩ := Kd.R_slice HO185.out; subst eo30)))
                      go_loopg [0, 58] k2 (fun kq v0 v58 w' => ∃ (x0_3 : Int) (x7_3 : List Int) (x58_3 : Int), v0 = .int .i64 x0_3 ∧ v58 = .int .i64 x58_3 ∧ Aside0 (impl_Divide.l2 kq x0_3 l1 l2 x7_3 x8_2 t183 (t183.length : Int) x58_3 = some r) ∧ Aside0 (kq ≤ k2) ∧ Aside0 (Kd.R (Kd.int .i64) 3 w' w.heap.size (fun k_ => some k_ ≠ ((.slice Ao28 x8_2.length co28) : Value).ownBlock ∧ some k_ ≠ ((.slice Ao30 t183.length co30) : Value).ownBlock) v172 x7_3) ∧ Aside0 (Kd.R (Kd.int .i64) 3 w' w.heap.size (fun k_ => some k_ ≠ (v172 : Value).ownBlock ∧ some k_ ≠ ((.slice Ao30 t183.length co30) : Value).ownBlock) (.slice Ao28 x8_2.length co28) x8_2) ∧ Aside0 (Kd.R (Kd.int .i64) 3 w' w.heap.size (fun k_ => some k_ ≠ (v172 : Value).ownBlock ∧ some k_ ≠ ((.slice Ao28 x8_2.length co28) : Value).ownBlock) (.slice Ao30 t183.length co30) t183) ∧ Aside0 (Below w.heap.size w w'))
                      case atStart => exact ⟨(x0_1), (x7_1), (0), (by first | rfl | (simp; done) | (simp [*]; done)), (by first | rfl | (simp; done) | (simp [*]; done)), H', ⟨Nat.le_refl _⟩, ⟨by (with_reducible repeat (first | apply Kd.R_alloc | apply Kd.R_drewN | apply Kd.R_drew)); exact HO_7.out⟩, ⟨by (with_reducible repeat (first | apply Kd.R_alloc | apply Kd.R_drewN | apply Kd.R_drew)); exact HO_8.out⟩, ⟨by (with_reducible repeat (first | apply Kd.R_alloc | apply Kd.R_drewN | apply Kd.R_drew)); exact Kd.R_mono HO185.out (fun _ hk => ⟨hk.1.2, hk.2⟩)⟩, ⟨by repeat (first | (with_reducible first | exact HB.out | apply below_alloc | apply pw_below_drewN | apply below_drew1) | exact HB.out)⟩⟩
                      case round =>
                        clear H'
                        try clear c1
                        try clear p1
                        try clear q1
                        try clear hx1
                        try clear c2
                        try clear p2
                        try clear c5
                        try clear c6
                        try clear c6b0
                        try clear c6b1
                        try clear p6
                        try clear c7
                        try clear c7b0
                        try clear c7b1
                        try clear c8
                        try clear c11
                        try clear c11b0
                        try clear c14
                        try clear c14b0
                        try clear c15
                        try clear c15b0
                        try clear c16
                        try clear c16b0
                        try clear c17
                        try clear c17b0
                        try clear p17
                        try clear q17
                        try clear hx17
                        try clear c18
                        try clear c18b0
                        try clear c19
                        try clear c19b0
                        try clear c20
                        try clear c20b0
                        try clear c21
                        try clear c25
                        try clear c25b0
                        try clear c25b1
                        try clear c25b2
                        try clear hx177_0
                        try clear hx178_0
                        try clear hx179_0
                        try clear p177
                        try clear p178
                        try clear p179
                        try clear p2
                        try clear q177
                        try clear q178
                        try clear q179
                        obtain ⟨x0_3, x7_3, x58_3, rfl, rfl, HA, HK3, HO_7, HO_8, HO_56, HB⟩ := hrel
                        cases gk with
                        | zero => exact absurd HA.out (by simp [impl_Divide.l2])
                        | succ k3 =>
                          have H := HA.out
                          clear HA
                          simp only [impl_Divide.l2] at H
                          by_cases c31 : x58_3 < (t183.length : Int)
                          · rw [if_pos c31] at H
                            have c31b0 : decide (x58_3 < (t183.length : Int)) = true := decide_eq_true c31
                            clear c31
                            by_cases c32 : 0 ≤ x58_3
                            · rw [if_pos c32] at H
                              have c32b0 : decide (0 ≤ x58_3) = true := decide_eq_true c32
                              clear c32
                              by_cases c33 : x58_3 < (t183.length : Int)
                              · rw [if_pos c33] at H
                                have c33b0 : decide (x58_3 < (t183.length : Int)) = true := decide_eq_true c33
                                clear c33
                                by_cases c34 : x58_3 < (x8_2.length : Int)
                                · rw [if_pos c34] at H
                                  have c34b0 : decide (x58_3 < (x8_2.length : Int)) = true := decide_eq_true c34
                                  clear c34
                                  by_cases c35 : 0 ≤ (rd x8_2 x58_3)
                                  · rw [if_pos c35] at H
                                    have c35b0 : decide (0 ≤ (rd x8_2 x58_3)) = true := decide_eq_true c35
                                    clear c35
                                    by_cases c36 : (rd x8_2 x58_3) < (l2.length : Int)
                                    · rw [if_pos c36] at H
                                      have c36b0 : decide ((rd x8_2 x58_3) < (l2.length : Int)) = true := decide_eq_true c36
                                      clear c36
                                      by_cases c37 : (rd x8_2 x58_3) < (x7_3.length : Int)
                                      · rw [if_pos c37] at H
                                        have c37b0 : decide ((rd x8_2 x58_3) < (x7_3.length : Int)) = true := decide_eq_true c37
                                        clear c37
                                        obtain ⟨ji38, hji38⟩ : ∃ j_ : Int, (mn (rd t183 x58_3) (wrap64 ((rd l2 (rd x8_2 x58_3)) - (rd x7_3 (rd x8_2 x58_3))))) = j_ := ⟨_, rfl⟩
                                        replace H : (impl_Divide.l2 k3 (wrap64 (x0_3 - (ji38))) l1 l2 (x7_3.set ((rd x8_2 x58_3) : Int).toNat (wrap64 ((rd x7_3 (rd x8_2 x58_3)) + (ji38)))) x8_2 t183 (t183.length : Int) (wrap64 (x58_3 + 1))) = some r := by first | (rw [hji38] at H; exact H) | (simp only [hji38] at H ⊢; exact H)
                                        have hji38_ : (if (wrap64 ((rd l2 (rd x8_2 x58_3)) - (rd x7_3 (rd x8_2 x58_3)))) < (rd t183 x58_3) then (wrap64 ((rd l2 (rd x8_2 x58_3)) - (rd x7_3 (rd x8_2 x58_3)))) else (rd t183 x58_3)) = ji38 := hji38
                                        obtain ⟨y191, hy191⟩ : ∃ y_ : List Int, y_ = (x7_3.set ((rd x8_2 x58_3) : Int).toNat (wrap64 ((rd x7_3 (rd x8_2 x58_3)) + (ji38)))) := ⟨_, rfl⟩
                                        replace H : (impl_Divide.l2 k3 (wrap64 (x0_3 - (ji38))) l1 l2 y191 x8_2 t183 (t183.length : Int) (wrap64 (x58_3 + 1))) = some r := by first | (rw [hy191]; with_reducible exact H) | (have H2_ := (Option.bind_some _ _).symm.trans H; rw [hy191]; with_reducible exact H2_) | (have H2_ := (Option.bind_some _ _).symm.trans H; with_reducible exact H2_) | with_reducible exact H | (rw [hy191]; exact H) | exact H
                                        have Ny191 := Aside0.mk hy191
                                        clear hy191
                                        have H' := Aside0.mk H
                                        clear H
                                        have p186 : 0 ≤ (x58_3 : Int) := of_decide_eq_true (by first | (with_reducible assumption) | assumption)
                                        have q186 : x58_3 < (t183.length : Int) := of_decide_eq_true (by first | (with_reducible assumption) | assumption)
                                        obtain ⟨ad186, e186, hx186_0⟩ := Kd.at_int (Kd.R_reads' HO_56.out).2.2 x58_3 p186 q186
                                        cases e186
                                        replace p186 := eq_true p186
                                        replace q186 := eq_true q186
                                        have p187 : 0 ≤ (x58_3 : Int) := of_decide_eq_true (by first | (with_reducible assumption) | assumption)
                                        have q187 : x58_3 < (x8_2.length : Int) := of_decide_eq_true (by first | (with_reducible assumption) | assumption)
                                        obtain ⟨ad187, e187, hx187_0⟩ := Kd.at_int (Kd.R_reads' HO_8.out).2.2 x58_3 p187 q187
                                        cases e187
                                        replace p187 := eq_true p187
                                        replace q187 := eq_true q187
                                        have p188 : 0 ≤ ((rd x8_2 x58_3) : Int) := of_decide_eq_true (by first | (with_reducible assumption) | assumption)
                                        have q188 : (rd x8_2 x58_3) < (l2.length : Int) := of_decide_eq_true (by first | (with_reducible assumption) | assumption)
                                        obtain ⟨ad188, e188, hx188_0⟩ := Kd.at_int HR2.out (rd x8_2 x58_3) p188 q188
                                        cases e188
                                        replace hx188_0 := (HB.out.cell (World.block_lt_of_cell? w _ hx188_0)).trans hx188_0
                                        replace p188 := eq_true p188
                                        replace q188 := eq_true q188
                                        obtain ⟨Ao40, co40, eo40⟩ := Kd.R_slice HO_7.out
                                        subst eo40
                                        have p189 : 0 ≤ ((rd x8_2 x58_3) : Int) := of_decide_eq_true (by first | (with_reducible assumption) | assumption)
                                        have q189 : (rd x8_2 x58_3) < (x7_3.length : Int) := of_decide_eq_true (by first | (with_reducible assumption) | assumption)
                                        obtain ⟨ad189, e189, hx189_0⟩ := Kd.at_int (Kd.R_reads' HO_7.out).2.2 (rd x8_2 x58_3) p189 q189
                                        cases e189
                                        replace p189 := eq_true p189
                                        replace q189 := eq_true q189
                                        have p190 : 0 ≤ ((rd x8_2 x58_3) : Int) := of_decide_eq_true (by first | (with_reducible assumption) | assumption)
                                        have q190 : (rd x8_2 x58_3) < (x7_3.length : Int) := of_decide_eq_true (by first | (with_reducible assumption) | assumption)
                                        obtain ⟨ad190, e190, hx190_0⟩ := Kd.at_int (Kd.R_reads' HO_7.out).2.2 (rd x8_2 x58_3) p190 q190
                                        obtain rfl : ad189 = ad190 := (by injection e190)
                                        replace p190 := eq_true p190
                                        replace q190 := eq_true q190
                                        have p39 : 0 ≤ ((rd x8_2 x58_3) : Int) := of_decide_eq_true (by first | (with_reducible assumption) | assumption)
                                        have q39 : ((rd x8_2 x58_3) : Int) < ((x7_3.length : Int) : Int) := of_decide_eq_true (by first | (with_reducible assumption) | assumption)
                                        obtain ⟨go39, co39, eo39, gb39, gl39, cl39, HG39⟩ := Kd.R_form HO_7.out (by omega)
                                        (first | cases eo39 | (injection eo39 with ea_ en_ ec_; (first | subst ea_ | (injection ea_ with ea_; subst ea_)); subst ec_; clear en_))
                                        have GB39 := Aside0.mk gb39
                                        have GG39 := Aside0.mk HG39
                                        clear gb39 gl39 HG39
                                        (first | simp only [add_plain] at hx189_0 | skip)
                                        (first | simp only [add_plain] at hx190_0 | skip)
                                        obtain ⟨hx39_0, hf39_0⟩ := Kd.R_celln 0 HO_7.out ((rd x8_2 x58_3) : Int) p39 q39
                                        replace p39 := eq_true p39
                                        replace q39 := eq_true q39
                                        have HP41 := Kd.R_putg HO_7.out ((rd x8_2 x58_3) : Int) (wrap64 ((rd x7_3 (rd x8_2 x58_3)) + (ji38)))
                                        go_wp2_with (first | ((with_reducible refine gate_store (t := 3) (p := 84) rfl ?_); (try (rw [drewN_self wr]; generalize hq_ : World.drewN wr _ = wr; have n0_ := Aside0.mk (Kd.R_at hq_ HO_7.out); have n1_ := Aside0.mk (Kd.R_at hq_ HO_8.out); have n2_ := Aside0.mk (Kd.R_at hq_ HO_56.out); have n3_ := Aside0.mk (below_at hq_ HB.out); clear hq_ HO_7 HO_8 HO_56 HB; have HO_7 := n0_; have HO_8 := n1_; have HO_56 := n2_; have HB := n3_; clear n0_ n1_ n2_ n3_; (try (have HP41 := Kd.R_putg HO_7.out ((rd x8_2 x58_3) : Int) (wrap64 ((rd x7_3 (rd x8_2 x58_3)) + (ji38))))); (try (obtain ⟨hx39_0, hf39_0⟩ := Kd.R_celln 0 HO_7.out ((rd x8_2 x58_3) : Int) (of_eq_true p39) (of_eq_true q39))))); refine store_event (t := 3) (p := 84) (v := ?vo_w42) (w1 := (wr.setCell ⟨go39, ((rd x8_2 x58_3) : Int).toNat, none⟩ (.int .i64 (wrap64 ((rd x7_3 (rd x8_2 x58_3)) + (ji38)))))) ?hg ?ho ?hn ?hr ?_; (case ho => rfl); (case hg => rfl); (case hn => rfl); (case hr => first | (go_simp; done) | (go_simp; rfl)); intro w42 hw; have hg : wr.grownBy w42 (some go39) := (by rw [hw]; exact HP41.2); have hp_ : Kd.R (Kd.int .i64) 3 w42 w.heap.size (fun k_ => some k_ ≠ (.slice (some ad187) x8_2.length co28 : Value).ownBlock ∧ some k_ ≠ (.slice (some ad186) t183.length co30 : Value).ownBlock) (.slice (some ⟨go39, 0, none⟩) x7_3.length co40) y191 := (by rw [hw, Ny191.out]; exact HP41.1); clear HP41; have n0_ := Aside0.mk (hp_); have n1_ := Aside0.mk (Kd.R_after (v := (.slice (some ⟨go39, 0, none⟩) x7_3.length co40)) (v1 := (.slice (some ⟨go39, 0, none⟩) x7_3.length co40)) (ok := (fun k_ => some k_ ≠ (.slice (some ad186) t183.length co30 : Value).ownBlock)) (by (with_reducible repeat (first | apply Kd.R_alloc | apply Kd.R_drewN | apply Kd.R_drew)); exact Kd.R_mono HO_8.out (fun _ hk => ⟨hk.2, hk.1⟩)) hg (.inl rfl)); have n2_ := Aside0.mk (Kd.R_after (v := (.slice (some ⟨go39, 0, none⟩) x7_3.length co40)) (v1 := (.slice (some ⟨go39, 0, none⟩) x7_3.length co40)) (ok := (fun k_ => some k_ ≠ (.slice (some ad187) x8_2.length co28 : Value).ownBlock)) (by (with_reducible repeat (first | apply Kd.R_alloc | apply Kd.R_drewN | apply Kd.R_drew)); exact Kd.R_mono HO_56.out (fun _ hk => ⟨hk.2, hk.1⟩)) hg (.inl rfl)); have n3_ := Aside0.mk ((by rw [hw]; exact below_set (HB.out) GB39.out : Below w.heap.size w w42)); clear HO_7; clear HO_8; clear HO_56; clear HB; have HO_7 := n0_; have HO_8 := n1_; have HO_56 := n2_; have HB := n3_; clear n0_ n1_ n2_ n3_; clear hg hw hp_))
                                        repeat (go_quiet (first | ((with_reducible refine gate_store (t := 3) (p := 84) rfl ?_); (try (rw [drewN_self wr]; generalize hq_ : World.drewN wr _ = wr; have n0_ := Aside0.mk (Kd.R_at hq_ HO_7.out); have n1_ := Aside0.mk (Kd.R_at hq_ HO_8.out); have n2_ := Aside0.mk (Kd.R_at hq_ HO_56.out); have n3_ := Aside0.mk (below_at hq_ HB.out); clear hq_ HO_7 HO_8 HO_56 HB; have HO_7 := n0_; have HO_8 := n1_; have HO_56 := n2_; have HB := n3_; clear n0_ n1_ n2_ n3_; (try (have HP41 := Kd.R_putg HO_7.out ((rd x8_2 x58_3) : Int) (wrap64 ((rd x7_3 (rd x8_2 x58_3)) + (ji38))))); (try (obtain ⟨hx39_0, hf39_0⟩ := Kd.R_celln 0 HO_7.out ((rd x8_2 x58_3) : Int) (of_eq_true p39) (of_eq_true q39))))); refine store_event (t := 3) (p := 84) (v := ?vo_w42) (w1 := (wr.setCell ⟨go39, ((rd x8_2 x58_3) : Int).toNat, none⟩ (.int .i64 (wrap64 ((rd x7_3 (rd x8_2 x58_3)) + (ji38)))))) ?hg ?ho ?hn ?hr ?_; (case ho => rfl); (case hg => rfl); (case hn => rfl); (case hr => first | (go_simp; done) | (go_simp; rfl)); intro w42 hw; have hg : wr.grownBy w42 (some go39) := (by rw [hw]; exact HP41.2); have hp_ : Kd.R (Kd.int .i64) 3 w42 w.heap.size (fun k_ => some k_ ≠ (.slice (some ad187) x8_2.length co28 : Value).ownBlock ∧ some k_ ≠ (.slice (some ad186) t183.length co30 : Value).ownBlock) (.slice (some ⟨go39, 0, none⟩) x7_3.length co40) y191 := (by rw [hw, Ny191.out]; exact HP41.1); clear HP41; have n0_ := Aside0.mk (hp_); have n1_ := Aside0.mk (Kd.R_after (v := (.slice (some ⟨go39, 0, none⟩) x7_3.length co40)) (v1 := (.slice (some ⟨go39, 0, none⟩) x7_3.length co40)) (ok := (fun k_ => some k_ ≠ (.slice (some ad186) t183.length co30 : Value).ownBlock)) (by (with_reducible repeat (first | apply Kd.R_alloc | apply Kd.R_drewN | apply Kd.R_drew)); exact Kd.R_mono HO_8.out (fun _ hk => ⟨hk.2, hk.1⟩)) hg (.inl rfl)); have n2_ := Aside0.mk (Kd.R_after (v := (.slice (some ⟨go39, 0, none⟩) x7_3.length co40)) (v1 := (.slice (some ⟨go39, 0, none⟩) x7_3.length co40)) (ok := (fun k_ => some k_ ≠ (.slice (some ad187) x8_2.length co28 : Value).ownBlock)) (by (with_reducible repeat (first | apply Kd.R_alloc | apply Kd.R_drewN | apply Kd.R_drew)); exact Kd.R_mono HO_56.out (fun _ hk => ⟨hk.2, hk.1⟩)) hg (.inl rfl)); have n3_ := Aside0.mk ((by rw [hw]; exact below_set (HB.out) GB39.out : Below w.heap.size w w42)); clear HO_7; clear HO_8; clear HO_56; clear HB; have HO_7 := n0_; have HO_8 := n1_; have HO_56 := n2_; have HB := n3_; clear n0_ n1_ n2_ n3_; clear hg hw hp_)); try go_wp2_with (first | ((with_reducible refine gate_store (t := 3) (p := 84) rfl ?_); (try (rw [drewN_self wr]; generalize hq_ : World.drewN wr _ = wr; have n0_ := Aside0.mk (Kd.R_at hq_ HO_7.out); have n1_ := Aside0.mk (Kd.R_at hq_ HO_8.out); have n2_ := Aside0.mk (Kd.R_at hq_ HO_56.out); have n3_ := Aside0.mk (below_at hq_ HB.out); clear hq_ HO_7 HO_8 HO_56 HB; have HO_7 := n0_; have HO_8 := n1_; have HO_56 := n2_; have HB := n3_; clear n0_ n1_ n2_ n3_; (try (have HP41 := Kd.R_putg HO_7.out ((rd x8_2 x58_3) : Int) (wrap64 ((rd x7_3 (rd x8_2 x58_3)) + (ji38))))); (try (obtain ⟨hx39_0, hf39_0⟩ := Kd.R_celln 0 HO_7.out ((rd x8_2 x58_3) : Int) (of_eq_true p39) (of_eq_true q39))))); refine store_event (t := 3) (p := 84) (v := ?vo_w42) (w1 := (wr.setCell ⟨go39, ((rd x8_2 x58_3) : Int).toNat, none⟩ (.int .i64 (wrap64 ((rd x7_3 (rd x8_2 x58_3)) + (ji38)))))) ?hg ?ho ?hn ?hr ?_; (case ho => rfl); (case hg => rfl); (case hn => rfl); (case hr => first | (go_simp; done) | (go_simp; rfl)); intro w42 hw; have hg : wr.grownBy w42 (some go39) := (by rw [hw]; exact HP41.2); have hp_ : Kd.R (Kd.int .i64) 3 w42 w.heap.size (fun k_ => some k_ ≠ (.slice (some ad187) x8_2.length co28 : Value).ownBlock ∧ some k_ ≠ (.slice (some ad186) t183.length co30 : Value).ownBlock) (.slice (some ⟨go39, 0, none⟩) x7_3.length co40) y191 := (by rw [hw, Ny191.out]; exact HP41.1); clear HP41; have n0_ := Aside0.mk (hp_); have n1_ := Aside0.mk (Kd.R_after (v := (.slice (some ⟨go39, 0, none⟩) x7_3.length co40)) (v1 := (.slice (some ⟨go39, 0, none⟩) x7_3.length co40)) (ok := (fun k_ => some k_ ≠ (.slice (some ad186) t183.length co30 : Value).ownBlock)) (by (with_reducible repeat (first | apply Kd.R_alloc | apply Kd.R_drewN | apply Kd.R_drew)); exact Kd.R_mono HO_8.out (fun _ hk => ⟨hk.2, hk.1⟩)) hg (.inl rfl)); have n2_ := Aside0.mk (Kd.R_after (v := (.slice (some ⟨go39, 0, none⟩) x7_3.length co40)) (v1 := (.slice (some ⟨go39, 0, none⟩) x7_3.length co40)) (ok := (fun k_ => some k_ ≠ (.slice (some ad187) x8_2.length co28 : Value).ownBlock)) (by (with_reducible repeat (first | apply Kd.R_alloc | apply Kd.R_drewN | apply Kd.R_drew)); exact Kd.R_mono HO_56.out (fun _ hk => ⟨hk.2, hk.1⟩)) hg (.inl rfl)); have n3_ := Aside0.mk ((by rw [hw]; exact below_set (HB.out) GB39.out : Below w.heap.size w w42)); clear HO_7; clear HO_8; clear HO_56; clear HB; have HO_7 := n0_; have HO_8 := n1_; have HO_56 := n2_; have HB := n3_; clear n0_ n1_ n2_ n3_; clear hg hw hp_)))
                                        go_roundg k3
                                        case measure => have := HK1.out; have := HK2.out; have := HK3.out; omega
                                        case rel => exact ⟨(wrap64 (x0_3 - (ji38))), (y191), (wrap64 (x58_3 + 1)), (by first | rfl | (simp; done) | (simp only [← hji38] <;> (first | rfl | simp)) | (simp [*]; done)), (by first | rfl | (simp; done) | (simp [*]; done)), H', ⟨by have := HK1.out; have := HK2.out; have := HK3.out; omega⟩, ⟨by (with_reducible repeat (first | apply Kd.R_alloc | apply Kd.R_drewN | apply Kd.R_drew)); exact HO_7.out⟩, ⟨by (with_reducible repeat (first | apply Kd.R_alloc | apply Kd.R_drewN | apply Kd.R_drew)); exact Kd.R_mono HO_8.out (fun _ hk => ⟨hk.2, hk.1⟩)⟩, ⟨by (with_reducible repeat (first | apply Kd.R_alloc | apply Kd.R_drewN | apply Kd.R_drew)); exact Kd.R_mono HO_56.out (fun _ hk => ⟨hk.2, hk.1⟩)⟩, ⟨by repeat (first | (with_reducible first | exact HB.out | apply below_alloc | apply pw_below_drewN | apply below_drew1) | exact HB.out)⟩⟩
                                      · rw [if_neg c37] at H
                                        exact absurd H (by simp)
                                    · rw [if_neg c36] at H
                                      exact absurd H (by simp)
                                  · rw [if_neg c35] at H
                                    exact absurd H (by simp)
                                · rw [if_neg c34] at H
                                  exact absurd H (by simp)
                              · rw [if_neg c33] at H
                                exact absurd H (by simp)
                            · rw [if_neg c32] at H
                              exact absurd H (by simp)
                          · rw [if_neg c31] at H
                            have c31b0 : decide (x58_3 < (t183.length : Int)) = false := decide_eq_false c31
                            clear c31
                            have H' := Aside0.mk H
                            clear H
                            go_wp2
                            repeat (go_quiet (fail); try go_wp2)
                            go_roundg k3
                            case measure => have := HK1.out; have := HK2.out; have := HK3.out; omega
                            case rel => exact ⟨(x0_3), (x7_3), (by first | rfl | (simp; done) | (simp [*]; done)), H', ⟨by have := HK1.out; have := HK2.out; have := HK3.out; omega⟩, ⟨by (with_reducible repeat (first | apply Kd.R_alloc | apply Kd.R_drewN | apply Kd.R_drew)); exact Kd.R_mono HO_7.out (fun _ hk => trivial)⟩, ⟨by repeat (first | (with_reducible first | exact HB.out | apply below_alloc | apply pw_below_drewN | apply below_drew1) | exact HB.out)⟩⟩
            · rw [if_neg c11] at H
              have c11b0 : decide (0 < x0_1) = false := decide_eq_false c11
              clear c11
              obtain rfl := Option.some.inj H
              go_wp2
              repeat (go_quiet (fail); try go_wp2)
              go_ret
              exact ⟨_, by first | rfl | (simp [errW_none, errW_some] <;> rfl) | (simp [*, errW_none, errW_some] <;> rfl), by (with_reducible repeat (first | apply Kd.R_alloc | apply Kd.R_drewN | apply Kd.R_drew)); exact HO_7.out, by repeat (first | (with_reducible first | exact HB.out | apply below_alloc | apply pw_below_drewN | apply below_drew1) | exact HB.out)⟩
      · rw [if_neg c7] at H
        exact absurd H (by simp)
    · rw [if_neg c6] at H
      exact absurd H (by simp)
  · replace c5 := Bool.eq_false_iff.mpr c5
    subst c5
    have H1 : (some ([] : List Int)) = some r := by rw [if_neg (show ¬ (false = true) by decide)] at H; exact H
    clear H
    have H := H1
    clear H1
    obtain rfl := Option.some.inj H
    go_enter Try.func8, Try.ntmps8
    go_wp2_with (first | (go_at_call 22; (with_reducible refine (impl_sharesOk.calls a0 _ _ l1 _ _ l2 false _ ?side1 ?side2 ?side3 ?side4 A4.out).mono ?_); (case side1 => repeat (first | exact HR1.out | (with_reducible refine Kd.C_alloc ?_ _) | (with_reducible refine Kd.C_drewN ?_ _) | (with_reducible refine Kd.C_drew ?_))); (case side2 => exact HC1.out); (case side3 => repeat (first | exact HR2.out | (with_reducible refine Kd.C_alloc ?_ _) | (with_reducible refine Kd.C_drewN ?_ _) | (with_reducible refine Kd.C_drew ?_))); (case side4 => exact HC2.out); rintro e w43 ⟨rfl, hb⟩; have n0_ := Aside0.mk (below_step (by repeat (first | (with_reducible first | exact HB.out | apply below_alloc | apply pw_below_drewN | apply below_drew1) | exact HB.out)) hb); clear HB; have HB := n0_; clear n0_; (try clear hb); (try clear hb2); (try clear hk); (try clear hi)))
    repeat (go_quiet (first | (go_at_call 22; (with_reducible refine (impl_sharesOk.calls a0 _ _ l1 _ _ l2 false _ ?side1 ?side2 ?side3 ?side4 A4.out).mono ?_); (case side1 => repeat (first | exact HR1.out | (with_reducible refine Kd.C_alloc ?_ _) | (with_reducible refine Kd.C_drewN ?_ _) | (with_reducible refine Kd.C_drew ?_))); (case side2 => exact HC1.out); (case side3 => repeat (first | exact HR2.out | (with_reducible refine Kd.C_alloc ?_ _) | (with_reducible refine Kd.C_drewN ?_ _) | (with_reducible refine Kd.C_drew ?_))); (case side4 => exact HC2.out); rintro e w43 ⟨rfl, hb⟩; have n0_ := Aside0.mk (below_step (by repeat (first | (with_reducible first | exact HB.out | apply below_alloc | apply pw_below_drewN | apply below_drew1) | exact HB.out)) hb); clear HB; have HB := n0_; clear n0_; (try clear hb); (try clear hb2); (try clear hk); (try clear hi))); try go_wp2_with (first | (go_at_call 22; (with_reducible refine (impl_sharesOk.calls a0 _ _ l1 _ _ l2 false _ ?side1 ?side2 ?side3 ?side4 A4.out).mono ?_); (case side1 => repeat (first | exact HR1.out | (with_reducible refine Kd.C_alloc ?_ _) | (with_reducible refine Kd.C_drewN ?_ _) | (with_reducible refine Kd.C_drew ?_))); (case side2 => exact HC1.out); (case side3 => repeat (first | exact HR2.out | (with_reducible refine Kd.C_alloc ?_ _) | (with_reducible refine Kd.C_drewN ?_ _) | (with_reducible refine Kd.C_drew ?_))); (case side4 => exact HC2.out); rintro e w43 ⟨rfl, hb⟩; have n0_ := Aside0.mk (below_step (by repeat (first | (with_reducible first | exact HB.out | apply below_alloc | apply pw_below_drewN | apply below_drew1) | exact HB.out)) hb); clear HB; have HB := n0_; clear n0_; (try clear hb); (try clear hb2); (try clear hk); (try clear hi))))
    go_ret
    exact ⟨_, by first | rfl | (simp [errW_none, errW_some] <;> rfl) | (simp [*, errW_none, errW_some] <;> rfl), by first | exact Kd.R_nil _ _ _ _ _ | exact Kd.N_nil _ _ _ _ _ | exact Kd.V_nil _ _ _ _ _ | exact Kd.Q_nil _ _ _ _ _ | exact Kd.S_nil _ _ _ _ _, by repeat (first | (with_reducible first | exact HB.out | apply below_alloc | apply pw_below_drewN | apply below_drew1) | exact HB.out)⟩

end Go.Proofs.Yteilcchcekmooaa.G

/- PDivC -/
/-
  Shares: one round of a division, of the program's and of the reference's; and all rounds.
-/
namespace Go.Proofs.Yteilcchcekmooaa.G
open Go.RowKit Go.Sort Go.Proofs.YteilcchcekmooaaW.PrintWords Go.Proofs.YteilcchcekmooaaW.PrintLast Go.Proofs.YteilcchcekmooaaW.PrintMore
set_option linter.unusedVariables false
set_option linter.unusedSimpArgs false
/-! ### the wants sum up to what there is -/
theorem sumR_cnt {p : Nat → Bool} (g : Nat → Int) : ∀ N, sumR (fun j => if p j = true then g (cnt p j) else 0) N = sumR g (cnt p N)
  | 0 => rfl
  | N + 1 => by
    rw [sumR, sumR_cnt g N, cnt_succ]
    by_cases h : p N = true
    · rw [if_pos h, if_pos h, sumR]
    · rw [if_neg h, if_neg h]; simp
theorem sumR_qQ (m : Int) (ws op : List Int) : ∀ k, sumR (qQ m ws op) k = m - leftQ m ws op k
  | 0 => by simp [sumR, leftQ]
  | k + 1 => by rw [sumR, sumR_qQ m ws op k, leftQ]; omega
theorem sumR_ind (b : Nat → Bool) : ∀ n, sumR (fun k => if b k = true then 1 else 0) n = ((List.range n).countP b : Nat)
  | 0 => rfl
  | n + 1 => by
    rw [sumR, sumR_ind b n, List.range_succ, List.countP_append]
    by_cases h : b n = true
    · rw [if_pos h, List.countP_cons_of_pos h]; simp
    · rw [if_neg h, List.countP_cons_of_neg h]; simp
theorem Ranked.count {m : Int} {ws op : List Int} {q : Nat → Nat} (h : Ranked m ws op q) {L : Nat} (hL : L ≤ op.length) : (List.range op.length).countP (fun k => decide (rankQ m ws op k < L)) = L := by
  rw [← h.perm.countP_eq, List.countP_map]
  have e := countP_lt op.length L hL
  rw [← e]
  refine List.countP_congr (fun s hs => ?_)
  have hs' := List.mem_range.1 hs
  simp only [Function.comp, h.rank hs', e]
theorem want_sum {m : Int} {ws : List Int} {p : Nat → Bool} (HP : QPre m ws (opI p ws.length)) : sumR (wantF m ws p (leftQ m ws (opI p ws.length) (opI p ws.length).length).toNat) ws.length = m := by
  obtain ⟨q, HR⟩ := exists_ranked m ws (opI p ws.length)
  have hlb := left_bound HP
  have hl := opI_len (p := p) ws.length
  obtain ⟨L, hL⟩ : ∃ L : Nat, leftQ m ws (opI p ws.length) (opI p ws.length).length = (L : Int) := ⟨(leftQ m ws (opI p ws.length) (opI p ws.length).length).toNat, by omega⟩
  have h1 : sumR (wantF m ws p L) ws.length = sumR (fun k => qQ m ws (opI p ws.length) k + (if rankQ m ws (opI p ws.length) k < L then 1 else 0)) (cnt p ws.length) := by
    rw [← sumR_cnt]
    exact sumR_congr (fun j hj => rfl)
  rw [hL, Int.toNat_natCast, h1, sumR_add, sumR_qQ, ← hl, hL]
  have h2 := sumR_ind (fun k => decide (rankQ m ws (opI p ws.length) k < L)) (opI p ws.length).length
  rw [HR.count (by omega)] at h2
  simp only [decide_eq_true_eq] at h2
  rw [h2]
  omega
/-! ### one round -/
def opnF (ws cs : List Int) (o : Nat → Int) (j : Nat) : Bool := decide (0 < rd ws (j : Int)) && decide (o j < rd cs (j : Int))
def leftN (n : Int) (ws cs : List Int) (o : Nat → Int) : Nat := (leftQ n ws (opI (opnF ws cs o) ws.length) (opI (opnF ws cs o) ws.length).length).toNat
def wantO (n : Int) (ws cs : List Int) (o : Nat → Int) (j : Nat) : Int := wantF n ws (opnF ws cs o) (leftN n ws cs o) j
def takeF (n : Int) (ws cs : List Int) (o : Nat → Int) (j : Nat) : Int := if wantO n ws cs o j > rd cs (j : Int) - o j then rd cs (j : Int) - o j else wantO n ws cs o j
/-- What holds of the shares so far. -/
structure Shr (ws cs : List Int) (o : Nat → Int) : Prop where
  bnd : ∀ j, j < ws.length → 0 ≤ o j ∧ o j ≤ rd cs (j : Int)
  nil : ∀ j, j < ws.length → rd ws (j : Int) = 0 → o j = 0
section
variable {n : Int} {ws cs : List Int} {o : Nat → Int}
theorem opn_iff {j : Nat} : opnF ws cs o j = true ↔ 0 < rd ws (j : Int) ∧ o j < rd cs (j : Int) := by unfold opnF; simp
theorem qpre (h : ShOk n ws cs) (hc : 0 < cnt (opnF ws cs o) ws.length) : QPre n ws (opI (opnF ws cs o) ws.length) := by
  have hl := opI_len (p := opnF ws cs o) ws.length
  have hn := cnt_le (p := opnF ws cs o) ws.length
  have h1 := h.l1
  refine ⟨h.n0, h.n1, by omega, by omega, fun k hk => ?_⟩
  obtain ⟨i, hi, hp, e⟩ := opI_at (p := opnF ws cs o) (N := ws.length) (k := k) (by omega)
  subst e
  rw [opI_rd hi hp]
  have := (opn_iff.1 hp).1
  have := h.w i hi
  omega
theorem want_bound (h : ShOk n ws cs) (hc : 0 < cnt (opnF ws cs o) ws.length) {j : Nat} (hj : j < ws.length) : 0 ≤ wantO n ws cs o j ∧ wantO n ws cs o j ≤ 10000001 := by
  have HP := qpre h hc
  unfold wantO wantF
  by_cases hp : opnF ws cs o j = true
  · rw [if_pos hp]
    have := qQ_bound HP (show cnt (opnF ws cs o) j < _ by rw [opI_len]; exact cnt_lt hj hp)
    split <;> omega
  · rw [if_neg hp]; omega
theorem take_bound (h : ShOk n ws cs) (S : Shr ws cs o) (hc : 0 < cnt (opnF ws cs o) ws.length) {j : Nat} (hj : j < ws.length) : 0 ≤ takeF n ws cs o j ∧ takeF n ws cs o j ≤ 10000 ∧ takeF n ws cs o j ≤ wantO n ws cs o j ∧ o j + takeF n ws cs o j ≤ rd cs (j : Int) := by
  have hw := want_bound h hc hj
  have hb := S.bnd j hj
  have hcc := h.c j hj
  unfold takeF
  split <;> omega
theorem take_closed (S : Shr ws cs o) {j : Nat} (hj : j < ws.length) (hp : ¬ opnF ws cs o j = true) : takeF n ws cs o j = 0 := by
  have hb := S.bnd j hj
  have e : wantO n ws cs o j = 0 := by unfold wantO wantF; rw [if_neg hp]
  unfold takeF
  rw [e, if_neg (by omega)]
theorem sum_bound (h : ShOk n ws cs) (S : Shr ws cs o) (hc : 0 < cnt (opnF ws cs o) ws.length) : ∀ i, i ≤ ws.length → 0 ≤ sumR (takeF n ws cs o) i ∧ sumR (takeF n ws cs o) i ≤ 10000 * i
  | 0, _ => by simp [sumR]
  | i + 1, hi => by
    have := sum_bound h S hc i (by omega)
    have := take_bound h S hc (show i < ws.length by omega)
    rw [sumR]; omega
theorem take_sum (h : ShOk n ws cs) (S : Shr ws cs o) (hc : 0 < cnt (opnF ws cs o) ws.length) (hn : 0 < n) : 0 < sumR (takeF n ws cs o) ws.length ∧ sumR (takeF n ws cs o) ws.length ≤ n := by
  have HP := qpre h hc
  have hs : sumR (wantO n ws cs o) ws.length = n := want_sum HP
  constructor
  · have : ¬ ∀ j, j < ws.length → wantO n ws cs o j ≤ 0 := fun hall => by
      have h1 := sumR_le (f := wantO n ws cs o) (g := fun _ => 0) (n := ws.length) hall
      rw [sumR_zero, hs] at h1
      omega
    simp only [Classical.not_forall, Int.not_le] at this
    obtain ⟨j, hj, hw⟩ := this
    refine sumR_pos (fun i hi => (take_bound h S hc hi).1) j hj ?_
    have hp : opnF ws cs o j = true := by
      cases hp : opnF ws cs o j with
      | true => rfl
      | false =>
        exfalso
        unfold wantO wantF at hw
        rw [if_neg (by rw [hp]; simp)] at hw
        omega
    have := (opn_iff.1 hp).2
    unfold takeF
    split <;> omega
  · exact Int.le_trans (sumR_le (fun j hj => (take_bound h S hc hj).2.2.1)) (Int.le_of_eq hs)
theorem shr_next (h : ShOk n ws cs) (S : Shr ws cs o) (hc : 0 < cnt (opnF ws cs o) ws.length) : Shr ws cs (fun j => o j + takeF n ws cs o j) := by
  refine ⟨fun j hj => ?_, fun j hj h0 => ?_⟩
  · have := take_bound h S hc hj
    have := S.bnd j hj
    show 0 ≤ o j + takeF n ws cs o j ∧ _
    omega
  · have hp : ¬ opnF ws cs o j = true := by rw [opn_iff]; omega
    show o j + takeF n ws cs o j = 0
    rw [take_closed S hj hp, S.nil j hj h0]; rfl
def sumW (ws cs : List Int) (o : Nat → Int) (i : Nat) : Int := sumR (fun j => if opnF ws cs o j = true then rd ws (j : Int) else 0) i
theorem sumW_eq (i : Nat) (hi : i ≤ ws.length) : sumQ ws (opI (opnF ws cs o) ws.length) (cnt (opnF ws cs o) i) = sumW ws cs o i := by
  induction i with
  | zero => rfl
  | succ i ih =>
    unfold sumW at *
    rw [sumR, ← ih (by omega), cnt_succ]
    by_cases hp : opnF ws cs o i = true
    · rw [if_pos hp, if_pos hp, sumQ, w_open (by omega) hp]
    · rw [if_neg hp, if_neg hp]; simp
theorem sumW_bound (h : ShOk n ws cs) : ∀ i, i ≤ ws.length → 0 ≤ sumW ws cs o i ∧ sumW ws cs o i ≤ 1000 * i ∧ (sumW ws cs o i = 0 → cnt (opnF ws cs o) i = 0)
  | 0, _ => by simp [sumW, sumR, cnt_zero]
  | i + 1, hi => by
    have ih := sumW_bound h i (by omega)
    have hw := h.w i (by omega)
    unfold sumW at *
    rw [sumR, cnt_succ]
    by_cases hp : opnF ws cs o i = true
    · rw [if_pos hp, if_pos hp]
      have := (opn_iff.1 hp).1
      omega
    · rw [if_neg hp, if_neg hp]; omega
/-- The reference's round. -/
theorem specRound (h : ShOk n ws cs) (S : Shr ws cs o) (hn : 0 < n) (hc : 0 < cnt (opnF ws cs o) ws.length) {W : List Int} (hW : Ev (fun k => spec_Divide.l0 k (n - sumR (takeF n ws cs o) ws.length) ws cs (mapR ws.length (fun j => o j + takeF n ws cs o j))) W) :
    Ev (fun k => spec_Divide.l0 k n ws cs (mapR ws.length o)) W := by
  have HP := qpre h hc
  have hl := opI_len (p := opnF ws cs o) ws.length
  have hl1 := h.l1
  have hl2 := h.l2
  have l2 : ∀ d i, i + d = ws.length → Ev (fun k => spec_Divide.l2 k (n - sumR (takeF n ws cs o) i) ws cs (mapR ws.length (fun j => if j < i then o j + takeF n ws cs o j else o j)) (mapR ws.length (fun j => if j < i then takeF n ws cs o j else wantO n ws cs o j)) (i : Int)) W := by
    intro d
    induction d with
    | zero =>
      intro i hi
      obtain rfl : i = ws.length := by omega
      refine Ev.step (fun k => by rw [spec_Divide.l2]) (ev_if_neg (by omega) ?_)
      rw [mapR_congr (g := fun j => o j + takeF n ws cs o j) (fun j hj => if_pos hj)]
      exact hW
    | succ d ih =>
      intro i hi
      have hiN : i < ws.length := by omega
      have ih := ih (i + 1) (by omega)
      have hb := S.bnd i hiN
      have hcc := h.c i hiN
      have ht := take_bound h S hc hiN
      have hs := sum_bound h S hc i (by omega)
      have hn0 := h.n0
      have hn1 := h.n1
      have ro : rd (mapR ws.length (fun j => if j < i then o j + takeF n ws cs o j else o j)) (i : Int) = o i := by rw [mapR_rd _ hiN, if_neg (by omega)]
      have rw_ : rd (mapR ws.length (fun j => if j < i then takeF n ws cs o j else wantO n ws cs o j)) (i : Int) = wantO n ws cs o i := by rw [mapR_rd _ hiN, if_neg (by omega)]
      have e1 : wrap64 (rd cs (i : Int) - o i) = rd cs (i : Int) - o i := w64 (by omega) (by omega)
      have e2 : wrap64 (o i + takeF n ws cs o i) = o i + takeF n ws cs o i := w64 (by omega) (by omega)
      have e3 : wrap64 (n - sumR (takeF n ws cs o) i - takeF n ws cs o i) = n - sumR (takeF n ws cs o) (i + 1) := by rw [sumR, w64 (by omega) (by omega)]; omega
      have so : (mapR ws.length (fun j => if j < i then o j + takeF n ws cs o j else o j)).set i (o i + takeF n ws cs o i) = mapR ws.length (fun j => if j < i + 1 then o j + takeF n ws cs o j else o j) := by
        rw [mapR_set]
        refine mapR_congr (fun j hj => ?_)
        by_cases e : j = i
        · subst e; rw [if_pos rfl, if_pos (by omega)]
        · rw [if_neg e]
          by_cases c : j < i
          · rw [if_pos c, if_pos (by omega)]
          · rw [if_neg c, if_neg (by omega)]
      have sw : ∀ v, v = takeF n ws cs o i → (mapR ws.length (fun j => if j < i then takeF n ws cs o j else wantO n ws cs o j)).set i v = mapR ws.length (fun j => if j < i + 1 then takeF n ws cs o j else wantO n ws cs o j) := fun v hv => by
        rw [mapR_set]
        refine mapR_congr (fun j hj => ?_)
        by_cases e : j = i
        · subst e; rw [if_pos rfl, if_pos (by omega), hv]
        · rw [if_neg e]
          by_cases c : j < i
          · rw [if_pos c, if_pos (by omega)]
          · rw [if_neg c, if_neg (by omega)]
      have rn : rd (mapR ws.length (fun j => if j < i + 1 then takeF n ws cs o j else wantO n ws cs o j)) (i : Int) = takeF n ws cs o i := by rw [mapR_rd _ hiN, if_pos (by omega)]
      refine Ev.step (fun k => by rw [spec_Divide.l2]) (ev_if_pos (by omega) (ev_if_pos (by omega) (ev_if_pos (by rw [mapR_len]; omega) (ev_if_pos (by omega) (ev_if_pos (by rw [mapR_len]; omega) ?_)))))
      simp only [ro, rw_, e1, wsucc hiN (by omega : ws.length ≤ 9223372036854775807), Int.toNat_natCast]
      by_cases c : wantO n ws cs o i > rd cs (i : Int) - o i
      · have et : rd cs (i : Int) - o i = takeF n ws cs o i := by unfold takeF; rw [if_pos c]
        refine ev_if_pos c ?_
        simp only [Option.bind_some, sw _ et, rn, e2, so, e3]
        exact ih
      · have et : wantO n ws cs o i = takeF n ws cs o i := by unfold takeF; rw [if_neg c]
        refine ev_if_neg c ?_
        have sw2 : mapR ws.length (fun j => if j < i then takeF n ws cs o j else wantO n ws cs o j) = mapR ws.length (fun j => if j < i + 1 then takeF n ws cs o j else wantO n ws cs o j) := by
          refine mapR_congr (fun j hj => ?_)
          by_cases e : j = i
          · subst e; rw [if_neg (by omega), if_pos (by omega), et]
          · by_cases c : j < i
            · rw [if_pos c, if_pos (by omega)]
            · rw [if_neg c, if_neg (by omega)]
        simp only [et, e2, so, e3]
        rw [sw2]
        exact ih
  have l1 : ∀ d i, i + d = ws.length → Ev (fun k => spec_Divide.l1 k n ws cs (mapR ws.length o) (mapB ws.length (fun j => if j < i then opnF ws cs o j else false)) (sumW ws cs o i) (i : Int)) W := by
    intro d
    induction d with
    | zero =>
      intro i hi
      obtain rfl : i = ws.length := by omega
      have hsw := sumW_bound (o := o) h ws.length (Nat.le_refl _)
      refine Ev.step (fun k => by rw [spec_Divide.l1]) (ev_if_neg (by omega) (ev_if_neg (by omega) ?_))
      have hq := wants_ev (m := n) (ws := ws) (p := opnF ws cs o) HP hl1
      have e := sumW_eq (ws := ws) (cs := cs) (o := o) ws.length (Nat.le_refl _)
      rw [← hl] at e
      rw [e] at hq
      rw [mapB_congr (g := opnF ws cs o) (fun j hj => if_pos hj)]
      refine Ev.bind hq ?_
      have h2 := l2 ws.length 0 (by omega)
      rw [mapR_congr (g := o) (fun j hj => if_neg (by omega)), mapR_congr (f := fun j => if j < 0 then takeF n ws cs o j else wantO n ws cs o j) (g := wantO n ws cs o) (fun j hj => if_neg (by omega))] at h2
      simp only [sumR, Int.sub_zero] at h2
      exact h2
    | succ d ih =>
      intro i hi
      have hiN : i < ws.length := by omega
      have ih := ih (i + 1) (by omega)
      have hsw := sumW_bound (o := o) h i (by omega)
      have hw := h.w i hiN
      have ro : rd (mapR ws.length o) (i : Int) = o i := mapR_rd _ hiN
      have sb : ∀ v, v = opnF ws cs o i → (mapB ws.length (fun j => if j < i then opnF ws cs o j else false)).set i v = mapB ws.length (fun j => if j < i + 1 then opnF ws cs o j else false) := fun v hv => by
        rw [mapB_set]
        refine mapB_congr (fun j hj => ?_)
        by_cases e : j = i
        · subst e; rw [if_pos rfl, if_pos (by omega), hv]
        · rw [if_neg e]
          by_cases c : j < i
          · rw [if_pos c, if_pos (by omega)]
          · rw [if_neg c, if_neg (by omega)]
      refine Ev.step (fun k => by rw [spec_Divide.l1]) (ev_if_pos (by omega) (ev_if_pos (by omega) ?_))
      simp only [ro, wsucc hiN (by omega : ws.length ≤ 9223372036854775807), Int.toNat_natCast]
      by_cases c1 : rd ws (i : Int) > 0
      · refine ev_if_pos c1 (ev_if_pos (by rw [mapR_len]; omega) (ev_if_pos (by omega) (ev_if_pos (by rw [mapB_len]; omega) ?_)))
        by_cases c2 : o i < rd cs (i : Int)
        · have hp : opnF ws cs o i = true := opn_iff.2 ⟨c1, c2⟩
          have es : sumW ws cs o (i + 1) = sumW ws cs o i + rd ws (i : Int) := by unfold sumW; rw [sumR, if_pos hp]
          rw [es] at ih
          simp only [Option.bind_some, decide_eq_true c2, sb true hp.symm]
          refine ev_if_pos trivial ?_
          simp only [w64 (x := sumW ws cs o i + rd ws (i : Int)) (by omega) (by omega)]
          exact ih
        · have hp : opnF ws cs o i = false := by rw [← Bool.not_eq_true, opn_iff]; omega
          have es : sumW ws cs o (i + 1) = sumW ws cs o i := by unfold sumW; rw [sumR, if_neg (by rw [hp]; simp)]; omega
          rw [es] at ih
          simp only [Option.bind_some, decide_eq_false c2, sb false hp.symm]
          exact ev_if_neg (by simp) ih
      · have hp : opnF ws cs o i = false := by rw [← Bool.not_eq_true, opn_iff]; omega
        have es : sumW ws cs o (i + 1) = sumW ws cs o i := by unfold sumW; rw [sumR, if_neg (by rw [hp]; simp)]; omega
        rw [es] at ih
        refine ev_if_neg c1 (ev_if_pos (by rw [mapB_len]; omega) ?_)
        simp only [Option.bind_some, sb false hp.symm]
        exact ev_if_neg (by simp) ih
  refine Ev.step (fun k => by rw [spec_Divide.l0]) (ev_if_pos hn (ev_if_pos (by omega) (ev_if_pos (by omega) ?_)))
  have h1 := l1 ws.length 0 (by omega)
  rw [mapB_congr (g := fun _ => false) (fun j hj => if_neg (by omega))] at h1
  rw [Int.toNat_natCast, mapB_repl]
  exact h1
end
end Go.Proofs.Yteilcchcekmooaa.G
