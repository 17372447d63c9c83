import Derived.Test.YteilcchcekmooaaMFnEven1
import Derived.Test.YteilcchcekmooaaMFnEven2
import Derived.Deep.QuietTactic
/- G22 -/
-- Laid by wip/g/gprint.py out of the translation, by the kit's print program. Lean checks it.
namespace Go.Proofs.Yteilcchcekmooaa.G
open Go.RowKit Go.Proofs.YteilcchcekmooaaW.PrintWords Go.Proofs.YteilcchcekmooaaW.PrintLast Go.Proofs.YteilcchcekmooaaW.PrintMore
attribute [local go_sem] max2_int min2_int max_two min_two max_three min_three max_four min_four   -- for this text's walks alone
set_option linter.unusedVariables false
set_option linter.unusedSimpArgs false

/-! ### slices.ContainsFunc[[]int,int] at loop.example/g00119/impl.sharesOk$1 -/
def impl_sharesOk_h32.f (l0 : List Int) : Option Bool := (idxO (fun x => impl_sharesOk_1.f x) l0 0).bind fun i => some (decide (0 ≤ i))
theorem impl_sharesOk_h32.calls (A0 : Option Addr) (c0 : Nat) (l0 : List Int) (r : Bool) (w : World) (hr0 : Kd.C (Kd.int .i64) w A0 l0.length l0) (hc0 : l0.length ≤ c0) (h : impl_sharesOk_h32.f l0 = some r) :
    Calls Try.prog 31 #[.slice A0 l0.length c0, .func (.func 32) #[] #[]] w fun e w' => e = .returned (.bool r) ∧ Below w.heap.size w w' := by
  unfold impl_sharesOk_h32.f at h
  obtain ⟨i, hi, hr⟩ := bind_some' h
  cases hr
  refine (slices_ContainsFunc_sint_int.calls (Kd.int .i64) rfl 32 (fun _ _ => by kernel_rfl) #[] _ A0 c0 l0 i w hr0 hc0 ?_ hi).mono ?_
  · intro x cs b W hx hp hk hb
    obtain rfl := hk
    exact (impl_sharesOk_1.calls x b W  hp).mono fun e w' h_ => ⟨h_.1, by first | exact h_.2 | exact h_.2.below⟩
  · rintro e w2 ⟨rfl, hb2⟩
    exact ⟨rfl, hb2⟩
/-! ### slices.ContainsFunc[[]int,int] at loop.example/g00119/impl.sharesOk$2 -/
def impl_sharesOk_h33.f (l0 : List Int) : Option Bool := (idxO (fun x => impl_sharesOk_2.f x) l0 0).bind fun i => some (decide (0 ≤ i))
theorem impl_sharesOk_h33.calls (A0 : Option Addr) (c0 : Nat) (l0 : List Int) (r : Bool) (w : World) (hr0 : Kd.C (Kd.int .i64) w A0 l0.length l0) (hc0 : l0.length ≤ c0) (h : impl_sharesOk_h33.f l0 = some r) :
    Calls Try.prog 31 #[.slice A0 l0.length c0, .func (.func 33) #[] #[]] w fun e w' => e = .returned (.bool r) ∧ Below w.heap.size w w' := by
  unfold impl_sharesOk_h33.f at h
  obtain ⟨i, hi, hr⟩ := bind_some' h
  cases hr
  refine (slices_ContainsFunc_sint_int.calls (Kd.int .i64) rfl 33 (fun _ _ => by kernel_rfl) #[] _ A0 c0 l0 i w hr0 hc0 ?_ hi).mono ?_
  · intro x cs b W hx hp hk hb
    obtain rfl := hk
    exact (impl_sharesOk_2.calls x b W  hp).mono fun e w' h_ => ⟨h_.1, by first | exact h_.2 | exact h_.2.below⟩
  · rintro e w2 ⟨rfl, hb2⟩
    exact ⟨rfl, hb2⟩
/-! ### impl_sharesOk: function 22 -/
def impl_sharesOk.f (a0 : Int) (l1 : List Int) (l2 : List Int) : Option (Bool) := (impl_within.f a0 0 10000).bind fun t167 => (if t167 = true then (if (l1.length : Int) ≤ 64 then (if (l2.length : Int) = (l1.length : Int) then ((impl_sharesOk_h32.f l1).bind fun t168 => (if t168 = true then (some false) else ((impl_sharesOk_h33.f l2).bind fun t169 => (some (!t169))))) else (some false)) else (some false)) else (some false))
set_option maxHeartbeats 8000000 in
set_option maxRecDepth 100000 in
theorem impl_sharesOk.calls (a0 : Int) (A1 : Option Addr) (c1 : Nat) (l1 : List Int) (A2 : Option Addr) (c2 : Nat) (l2 : List Int) (r : Bool) (w : World) (hr1 : Kd.C (Kd.int .i64) w A1 l1.length l1) (hc1 : l1.length ≤ c1) (hr2 : Kd.C (Kd.int .i64) w A2 l2.length l2) (hc2 : l2.length ≤ c2) (h : impl_sharesOk.f a0 l1 l2 = some r) :
    Calls Try.prog 22 #[.int .i64 a0, .slice A1 l1.length c1, .slice A2 l2.length c2] w fun e w' => e = .returned (.bool r) ∧ Below w.heap.size w w' := by
  have HR1 := Aside0.mk hr1
  have HC1 := Aside0.mk hc1
  clear hr1 hc1
  have HR2 := Aside0.mk hr2
  have HC2 := Aside0.mk hc2
  clear hr2 hc2
  have HB := Aside0.mk (Below.refl w.heap.size w)
  have H : ((impl_within.f a0 0 10000).bind fun t167 => (if t167 = true then (if (l1.length : Int) ≤ 64 then (if (l2.length : Int) = (l1.length : Int) then ((impl_sharesOk_h32.f l1).bind fun t168 => (if t168 = true then (some false) else ((impl_sharesOk_h33.f l2).bind fun t169 => (some (!t169))))) else (some false)) else (some false)) else (some false))) = some r := h
  clear h
  replace H := Option.bind_eq_some_iff.mp H
  obtain ⟨t167, A40, H⟩ := H
  replace H : (if t167 = true then (if (l1.length : Int) ≤ 64 then (if (l2.length : Int) = (l1.length : Int) then ((impl_sharesOk_h32.f l1).bind fun t168 => (if t168 = true then (some false) else ((impl_sharesOk_h33.f l2).bind fun t169 => (some (!t169))))) else (some false)) else (some false)) else (some false)) = some r := H
  have A4 := Aside0.mk A40
  clear A40
  by_cases c5 : t167 = true
  · subst c5
    have H1 : (if (l1.length : Int) ≤ 64 then (if (l2.length : Int) = (l1.length : Int) then ((impl_sharesOk_h32.f l1).bind fun t168 => (if t168 = true then (some false) else ((impl_sharesOk_h33.f l2).bind fun t169 => (some (!t169))))) else (some false)) else (some false)) = some r := by rw [if_pos rfl] at H; exact H
    clear H
    have H := H1
    clear H1
    by_cases c6 : (l1.length : Int) ≤ 64
    · rw [if_pos c6] at H
      have c6b0 : decide ((l1.length : Int) ≤ 64) = true := decide_eq_true c6
      have c6b1 : decide (l1.length ≤ 64) = true := decide_eq_true (by omega)
      clear c6
      by_cases c7 : (l2.length : Int) = (l1.length : Int)
      · rw [if_pos c7] at H
        have c7b0 : ((l2.length : Int) == (l1.length : Int)) = true := beq_iff_eq.mpr c7
        have c7b1 : ((l2.length : Int) != (l1.length : Int)) = false := bne_eq_false_iff_eq.mpr c7
        have c7b2 : (l2.length == l1.length) = true := by first | simpa using c7 | (simp at c7 ⊢; omega)
        clear c7
        replace H := Option.bind_eq_some_iff.mp H
        obtain ⟨t168, A80, H⟩ := H
        replace H : (if t168 = true then (some false) else ((impl_sharesOk_h33.f l2).bind fun t169 => (some (!t169)))) = some r := H
        have A8 := Aside0.mk A80
        clear A80
        by_cases c9 : t168 = true
        · subst c9
          have H1 : (some false) = some r := by rw [if_pos rfl] at H; exact H
          clear H
          have H := H1
          clear H1
          obtain rfl := Option.some.inj H
          go_enter Try.func22, Try.ntmps22
          go_wp2_with (first | ((with_reducible refine gate_callee (f := 29) rfl ?_); refine goesL_ (some 8) rfl rfl Try.func29 (by kernel_rfl) rfl #[.int .i64 a0, .int .i64 0, .int .i64 10000] rfl (by (try simp only [List.map_toArray, List.map_cons, List.map_nil]); first | done | rfl | (simp only [List.length_drop, List.length_take]; rfl)) ?_; (with_reducible refine (impl_within.calls a0 0 10000 true _ A4.out).mono ?_); rintro e w' ⟨rfl, ⟨nd, rfl⟩⟩; refine ⟨_, rfl, ?_⟩) | (go_at_call 31; (with_reducible refine (impl_sharesOk_h32.calls _ _ l1 true _ ?side1 ?side2 A8.out).mono ?_); (case side1 => repeat (first | exact HR1.out | (with_reducible refine Kd.C_alloc ?_ _) | (with_reducible refine Kd.C_drewN ?_ _) | (with_reducible refine Kd.C_drew ?_))); (case side2 => exact HC1.out); rintro e w10 ⟨rfl, hb⟩; have n0_ := Aside0.mk (below_step (by repeat (first | (with_reducible first | exact HB.out | apply below_alloc | apply pw_below_drewN | apply below_drew1) | exact HB.out)) hb); clear HB; have HB := n0_; clear n0_; (try clear hb); (try clear hb2); (try clear hk); (try clear hi)))
          go_ret
          exact ⟨by first | rfl | (simp [errW_none, errW_some] <;> rfl) | (simp [*, errW_none, errW_some] <;> rfl), by repeat (first | (with_reducible first | exact HB.out | apply below_alloc | apply pw_below_drewN | apply below_drew1) | exact HB.out)⟩
        · replace c9 := Bool.eq_false_iff.mpr c9
          subst c9
          have H1 : ((impl_sharesOk_h33.f l2).bind fun t169 => (some (!t169))) = some r := by rw [if_neg (show ¬ (false = true) by decide)] at H; exact H
          clear H
          have H := H1
          clear H1
          replace H := Option.bind_eq_some_iff.mp H
          obtain ⟨t169, A110, H⟩ := H
          replace H : (some (!t169)) = some r := H
          have A11 := Aside0.mk A110
          clear A110
          obtain rfl := Option.some.inj H
          go_enter Try.func22, Try.ntmps22
          go_wp2_with (first | ((with_reducible refine gate_callee (f := 29) rfl ?_); refine goesL_ (some 8) rfl rfl Try.func29 (by kernel_rfl) rfl #[.int .i64 a0, .int .i64 0, .int .i64 10000] rfl (by (try simp only [List.map_toArray, List.map_cons, List.map_nil]); first | done | rfl | (simp only [List.length_drop, List.length_take]; rfl)) ?_; (with_reducible refine (impl_within.calls a0 0 10000 true _ A4.out).mono ?_); rintro e w' ⟨rfl, ⟨nd, rfl⟩⟩; refine ⟨_, rfl, ?_⟩) | (go_at_call 31; (with_reducible refine (impl_sharesOk_h32.calls _ _ l1 false _ ?side1 ?side2 A8.out).mono ?_); (case side1 => repeat (first | exact HR1.out | (with_reducible refine Kd.C_alloc ?_ _) | (with_reducible refine Kd.C_drewN ?_ _) | (with_reducible refine Kd.C_drew ?_))); (case side2 => exact HC1.out); rintro e w12 ⟨rfl, hb⟩; have n0_ := Aside0.mk (below_step (by repeat (first | (with_reducible first | exact HB.out | apply below_alloc | apply pw_below_drewN | apply below_drew1) | exact HB.out)) hb); clear HB; have HB := n0_; clear n0_; (try clear hb); (try clear hb2); (try clear hk); (try clear hi)) | (go_at_call 31; (with_reducible refine (impl_sharesOk_h33.calls _ _ l2 t169 _ ?side1 ?side2 A11.out).mono ?_); (case side1 => repeat (first | exact (Kd.C_below HR2.out HB.out) | (with_reducible refine Kd.C_alloc ?_ _) | (with_reducible refine Kd.C_drewN ?_ _) | (with_reducible refine Kd.C_drew ?_))); (case side2 => exact HC2.out); rintro e w13 ⟨rfl, hb⟩; have n0_ := Aside0.mk (below_step (by repeat (first | (with_reducible first | exact HB.out | apply below_alloc | apply pw_below_drewN | apply below_drew1) | exact HB.out)) hb); clear HB; have HB := n0_; clear n0_; (try clear hb); (try clear hb2); (try clear hk); (try clear hi)))
          go_ret
          exact ⟨by first | rfl | (simp [errW_none, errW_some] <;> rfl) | (simp [*, errW_none, errW_some] <;> rfl), by repeat (first | (with_reducible first | exact HB.out | apply below_alloc | apply pw_below_drewN | apply below_drew1) | exact HB.out)⟩
      · rw [if_neg c7] at H
        have c7b0 : ((l2.length : Int) == (l1.length : Int)) = false := beq_eq_false_iff_ne.mpr c7
        have c7b1 : ((l2.length : Int) != (l1.length : Int)) = true := bne_iff_ne.mpr c7
        have c7b2 : (l2.length == l1.length) = false := by first | simpa using c7 | (simp at c7 ⊢; omega)
        obtain rfl := Option.some.inj H
        go_enter Try.func22, Try.ntmps22
        go_wp2_with (first | ((with_reducible refine gate_callee (f := 29) rfl ?_); refine goesL_ (some 8) rfl rfl Try.func29 (by kernel_rfl) rfl #[.int .i64 a0, .int .i64 0, .int .i64 10000] rfl (by (try simp only [List.map_toArray, List.map_cons, List.map_nil]); first | done | rfl | (simp only [List.length_drop, List.length_take]; rfl)) ?_; (with_reducible refine (impl_within.calls a0 0 10000 true _ A4.out).mono ?_); rintro e w' ⟨rfl, ⟨nd, rfl⟩⟩; refine ⟨_, rfl, ?_⟩))
        go_ret
        exact ⟨by first | rfl | (simp [errW_none, errW_some] <;> rfl) | (simp [*, errW_none, errW_some] <;> rfl), by repeat (first | (with_reducible first | exact HB.out | apply below_alloc | apply pw_below_drewN | apply below_drew1) | exact HB.out)⟩
    · rw [if_neg c6] at H
      have c6b0 : decide ((l1.length : Int) ≤ 64) = false := decide_eq_false c6
      have c6b1 : decide (l1.length ≤ 64) = false := decide_eq_false (by omega)
      clear c6
      obtain rfl := Option.some.inj H
      go_enter Try.func22, Try.ntmps22
      go_wp2_with (first | ((with_reducible refine gate_callee (f := 29) rfl ?_); refine goesL_ (some 8) rfl rfl Try.func29 (by kernel_rfl) rfl #[.int .i64 a0, .int .i64 0, .int .i64 10000] rfl (by (try simp only [List.map_toArray, List.map_cons, List.map_nil]); first | done | rfl | (simp only [List.length_drop, List.length_take]; rfl)) ?_; (with_reducible refine (impl_within.calls a0 0 10000 true _ A4.out).mono ?_); rintro e w' ⟨rfl, ⟨nd, rfl⟩⟩; refine ⟨_, rfl, ?_⟩))
      go_ret
      exact ⟨by first | rfl | (simp [errW_none, errW_some] <;> rfl) | (simp [*, errW_none, errW_some] <;> rfl), by repeat (first | (with_reducible first | exact HB.out | apply below_alloc | apply pw_below_drewN | apply below_drew1) | exact HB.out)⟩
  · replace c5 := Bool.eq_false_iff.mpr c5
    subst c5
    have H1 : (some false) = some r := by rw [if_neg (show ¬ (false = true) by decide)] at H; exact H
    clear H
    have H := H1
    clear H1
    obtain rfl := Option.some.inj H
    go_enter Try.func22, Try.ntmps22
    go_wp2_with (first | ((with_reducible refine gate_callee (f := 29) rfl ?_); refine goesL_ (some 8) rfl rfl Try.func29 (by kernel_rfl) rfl #[.int .i64 a0, .int .i64 0, .int .i64 10000] rfl (by (try simp only [List.map_toArray, List.map_cons, List.map_nil]); first | done | rfl | (simp only [List.length_drop, List.length_take]; rfl)) ?_; (with_reducible refine (impl_within.calls a0 0 10000 false _ A4.out).mono ?_); rintro e w' ⟨rfl, ⟨nd, rfl⟩⟩; refine ⟨_, rfl, ?_⟩))
    go_ret
    exact ⟨by first | rfl | (simp [errW_none, errW_some] <;> rfl) | (simp [*, errW_none, errW_some] <;> rfl), by repeat (first | (with_reducible first | exact HB.out | apply below_alloc | apply pw_below_drewN | apply below_drew1) | exact HB.out)⟩

end Go.Proofs.Yteilcchcekmooaa.G

/- G30 -/
-- Laid by wip/g/gprint.py out of the translation, by the kit's print program. Lean checks it.
namespace Go.Proofs.Yteilcchcekmooaa.G
open Go.RowKit Go.Proofs.YteilcchcekmooaaW.PrintWords Go.Proofs.YteilcchcekmooaaW.PrintLast Go.Proofs.YteilcchcekmooaaW.PrintMore
attribute [local go_sem] max2_int min2_int max_two min_two max_three min_three max_four min_four   -- for this text's walks alone
set_option linter.unusedVariables false
set_option linter.unusedSimpArgs false

/-! ### spec_l1In: function 30 -/
def spec_l1In.f (a0 : Int) (a1 : Int) (a2 : Int) : Option (Bool) := if a0 ≥ a1 then (some (decide (a0 ≤ a2))) else (some false)
set_option maxHeartbeats 8000000 in
set_option maxRecDepth 100000 in
theorem spec_l1In.calls (a0 : Int) (a1 : Int) (a2 : Int) (r : Bool) (w : World) (h : spec_l1In.f a0 a1 a2 = some r) :
    Calls Try.prog 30 #[.int .i64 a0, .int .i64 a1, .int .i64 a2] w fun e w' => e = .returned (.bool r) ∧ Drawn0 w w' := by
  have H : (if a0 ≥ a1 then (some (decide (a0 ≤ a2))) else (some false)) = some r := h
  clear h
  by_cases c4 : a0 ≥ a1
  · rw [if_pos c4] at H
    have c4b0 : decide (a1 ≤ a0) = true := decide_eq_true c4
    clear c4
    obtain rfl := Option.some.inj H
    go_enter Try.func30, Try.ntmps30
    go_wp2
    go_ret
    exact ⟨by first | rfl | (simp; done) | (simp [*]; done), by repeat (first | exact Drawn0.refl _ | apply Drawn0.step)⟩
  · rw [if_neg c4] at H
    have c4b0 : decide (a1 ≤ a0) = false := decide_eq_false c4
    clear c4
    obtain rfl := Option.some.inj H
    go_enter Try.func30, Try.ntmps30
    go_wp2
    go_ret
    exact ⟨by first | rfl | (simp; done) | (simp [*]; done), by repeat (first | exact Drawn0.refl _ | apply Drawn0.step)⟩

end Go.Proofs.Yteilcchcekmooaa.G

/- G20 -/
-- Laid by wip/g/gprint.py out of the translation, by the kit's print program. Lean checks it.
namespace Go.Proofs.Yteilcchcekmooaa.G
open Go.RowKit Go.Proofs.YteilcchcekmooaaW.PrintWords Go.Proofs.YteilcchcekmooaaW.PrintLast Go.Proofs.YteilcchcekmooaaW.PrintMore
attribute [local go_sem] max2_int min2_int max_two min_two max_three min_three max_four min_four   -- for this text's walks alone
set_option linter.unusedVariables false
set_option linter.unusedSimpArgs false

/-! ### spec_l6Right: function 20 -/
mutual
def spec_l6Right.j0 : Nat → List Int → List Int → Bool → Option (Bool)
  | 0, _, _, _ => none
  | k + 1, x1, x2, x22 => if x22 = true then (some false) else (spec_l6Right.l0 k x1 x2 0)
def spec_l6Right.l0 : Nat → List Int → List Int → Int → Option (Bool)
  | 0, _, _, _ => none
  | k + 1, x1, x2, x7 => if x7 < (x1.length : Int) then (if 0 ≤ x7 then ((spec_l1In.f (rd x1 x7) 0 1000).bind fun t103 => (if t103 = true then (if x7 < (x2.length : Int) then ((spec_l1In.f (rd x2 x7) 0 10000).bind fun t105 => (if t105 = true then (spec_l6Right.l0 k x1 x2 (wrap64 (x7 + 1))) else (some false))) else (none)) else (some false))) else (none)) else (some true)
end
def spec_l6Right.f (k : Nat) (a0 : Int) (l1 : List Int) (l2 : List Int) : Option (Bool) := (spec_l1In.f a0 0 10000).bind fun t101 => (if t101 = true then (if (l1.length : Int) > 64 then (spec_l6Right.j0 k l1 l2 true) else (spec_l6Right.j0 k l1 l2 ((l1.length : Int) != (l2.length : Int)))) else (spec_l6Right.j0 k l1 l2 true))
set_option maxHeartbeats 8000000 in
set_option maxRecDepth 100000 in
theorem spec_l6Right.calls (k : Nat) (a0 : Int) (A1 : Option Addr) (c1 : Nat) (l1 : List Int) (A2 : Option Addr) (c2 : Nat) (l2 : List Int) (r : Bool) (w : World) (hr1 : Kd.C (Kd.int .i64) w A1 l1.length l1) (hc1 : l1.length ≤ c1) (hr2 : Kd.C (Kd.int .i64) w A2 l2.length l2) (hc2 : l2.length ≤ c2) (h : spec_l6Right.f k a0 l1 l2 = some r) :
    Calls Try.prog 20 #[.int .i64 a0, .slice A1 l1.length c1, .slice A2 l2.length c2] w fun e w' => e = .returned (.bool r) ∧ Drawn0 w w' := by
  have HR1 := Aside0.mk hr1
  have HC1 := Aside0.mk hc1
  clear hr1 hc1
  have HR2 := Aside0.mk hr2
  have HC2 := Aside0.mk hc2
  clear hr2 hc2
  have H : ((spec_l1In.f a0 0 10000).bind fun t101 => (if t101 = true then (if (l1.length : Int) > 64 then (spec_l6Right.j0 k l1 l2 true) else (spec_l6Right.j0 k l1 l2 ((l1.length : Int) != (l2.length : Int)))) else (spec_l6Right.j0 k l1 l2 true))) = some r := h
  clear h
  have HC4 := Aside0.mk H
  clear H
  go_enter Try.func20, Try.ntmps20
  go_upto_region 1 with (fail)
  go_cut [22] (fun v22 wc => ∃ (kq : Nat) (x22_3 : Bool), v22 = .bool x22_3 ∧ Aside0 (spec_l6Right.j0 kq l1 l2 x22_3 = some r) ∧ Aside0 (kq ≤ k) ∧ Drawn0 w wc)
  case first =>
    have H := HC4.out
    clear HC4
    replace H := Option.bind_eq_some_iff.mp H
    obtain ⟨t101, A50, H⟩ := H
    replace H : (if t101 = true then (if (l1.length : Int) > 64 then (spec_l6Right.j0 k l1 l2 true) else (spec_l6Right.j0 k l1 l2 ((l1.length : Int) != (l2.length : Int)))) else (spec_l6Right.j0 k l1 l2 true)) = some r := H
    have A5 := Aside0.mk A50
    clear A50
    by_cases c6 : t101 = true
    · subst c6
      have H1 : (if (l1.length : Int) > 64 then (spec_l6Right.j0 k l1 l2 true) else (spec_l6Right.j0 k l1 l2 ((l1.length : Int) != (l2.length : Int)))) = some r := by rw [if_pos rfl] at H; exact H
      clear H
      have H := H1
      clear H1
      by_cases c7 : (l1.length : Int) > 64
      · rw [if_pos c7] at H
        have c7b0 : decide (64 < (l1.length : Int)) = true := decide_eq_true c7
        have c7b1 : decide (64 < l1.length) = true := decide_eq_true (by omega)
        clear c7
        (first | rw [c7b0] | (simp only [i64_w, i32_w]; rw [c7b0]) | skip)
        have H' := Aside0.mk H
        clear H
        go_wp2_with (first | ((with_reducible refine gate_callee (f := 30) rfl ?_); refine goesL_ (some 9) rfl rfl Try.func30 (by kernel_rfl) rfl #[.int .i64 a0, .int .i64 0, .int .i64 10000] rfl (by (try simp only [List.map_toArray, List.map_cons, List.map_nil]); first | done | rfl | (simp only [List.length_drop, List.length_take]; rfl)) ?_; (with_reducible refine (spec_l1In.calls a0 0 10000 true _ A5.out).mono ?_); rintro e w' ⟨rfl, ⟨nd, rfl⟩⟩; refine ⟨_, rfl, ?_⟩))
        go_meet
        case rel => exact ⟨_, (true), (by first | rfl | (simp; done) | (simp [*]; done)), H', ⟨by first | omega | exact Nat.le_refl _⟩, by repeat (first | exact Drawn0.refl _ | apply Drawn0.step)⟩
      · rw [if_neg c7] at H
        have c7b0 : decide (64 < (l1.length : Int)) = false := decide_eq_false c7
        have c7b1 : decide (64 < l1.length) = false := decide_eq_false (by omega)
        clear c7
        (first | rw [c7b0] | (simp only [i64_w, i32_w]; rw [c7b0]) | skip)
        have H' := Aside0.mk H
        clear H
        go_wp2_with (first | ((with_reducible refine gate_callee (f := 30) rfl ?_); refine goesL_ (some 9) rfl rfl Try.func30 (by kernel_rfl) rfl #[.int .i64 a0, .int .i64 0, .int .i64 10000] rfl (by (try simp only [List.map_toArray, List.map_cons, List.map_nil]); first | done | rfl | (simp only [List.length_drop, List.length_take]; rfl)) ?_; (with_reducible refine (spec_l1In.calls a0 0 10000 true _ A5.out).mono ?_); rintro e w' ⟨rfl, ⟨nd, rfl⟩⟩; refine ⟨_, rfl, ?_⟩))
        go_meet
        case rel => exact ⟨_, (((l1.length : Int) != (l2.length : Int))), (by first | rfl | (simp; done) | (simp [*]; done)), H', ⟨by first | omega | exact Nat.le_refl _⟩, by repeat (first | exact Drawn0.refl _ | apply Drawn0.step)⟩
    · replace c6 := Bool.eq_false_iff.mpr c6
      subst c6
      have H1 : (spec_l6Right.j0 k l1 l2 true) = some r := by rw [if_neg (show ¬ (false = true) by decide)] at H; exact H
      clear H
      have H := H1
      clear H1
      have H' := Aside0.mk H
      clear H
      go_wp2_with (first | ((with_reducible refine gate_callee (f := 30) rfl ?_); refine goesL_ (some 9) rfl rfl Try.func30 (by kernel_rfl) rfl #[.int .i64 a0, .int .i64 0, .int .i64 10000] rfl (by (try simp only [List.map_toArray, List.map_cons, List.map_nil]); first | done | rfl | (simp only [List.length_drop, List.length_take]; rfl)) ?_; (with_reducible refine (spec_l1In.calls a0 0 10000 false _ A5.out).mono ?_); rintro e w' ⟨rfl, ⟨nd, rfl⟩⟩; refine ⟨_, rfl, ?_⟩))
      go_meet
      case rel => exact ⟨_, (true), (by first | rfl | (simp; done) | (simp [*]; done)), H', ⟨by first | omega | exact Nat.le_refl _⟩, by repeat (first | exact Drawn0.refl _ | apply Drawn0.step)⟩
  case rest =>
    clear HC4
    try clear c1
    try clear c2
    try clear p2
    try clear c3
    try clear c6
    try clear c7
    try clear c7b0
    try clear c7b1
    obtain ⟨kq, x22_3, rfl, HA, HJ3, ⟨mc3, rfl⟩⟩ := hcut
    cases kq with
    | zero => exact absurd HA.out (by simp [spec_l6Right.j0])
    | succ kj3 =>
      have H := HA.out
      clear HA
      simp only [spec_l6Right.j0] at H
      by_cases c8 : x22_3 = true
      · subst c8
        have H1 : (some false) = some r := by rw [if_pos rfl] at H; exact H
        clear H
        have H := H1
        clear H1
        obtain rfl := Option.some.inj H
        go_wp2
        go_ret
        exact ⟨by first | rfl | (simp; done) | (simp [*]; done), by repeat (first | exact Drawn0.refl _ | apply Drawn0.step)⟩
      · replace c8 := Bool.eq_false_iff.mpr c8
        subst c8
        have H1 : (spec_l6Right.l0 kj3 l1 l2 0) = some r := by rw [if_neg (show ¬ (false = true) by decide)] at H; exact H
        clear H
        have H := H1
        clear H1
        have H' := Aside0.mk H
        clear H
        go_wp2
        go_loopg [7] kj3 (fun kq v7 w' => ∃ (x7_2 : Int), v7 = .int .i64 x7_2 ∧ Aside0 (spec_l6Right.l0 kq l1 l2 x7_2 = some r) ∧ Aside0 (kq ≤ kj3) ∧ Drawn0 w w')
        case atStart => exact ⟨(0), (by first | rfl | (simp; done) | (simp [*]; done)), H', ⟨Nat.le_refl _⟩, by repeat (first | exact Drawn0.refl _ | apply Drawn0.step)⟩
        case round =>
          clear H'
          try clear c1
          try clear c2
          try clear p2
          try clear c3
          try clear c6
          try clear c7
          try clear c7b0
          try clear c7b1
          try clear c8
          try clear p2
          obtain ⟨x7_2, rfl, HA, HK2, ⟨m2, rfl⟩⟩ := hrel
          cases gk with
          | zero => exact absurd HA.out (by simp [spec_l6Right.l0])
          | succ k2 =>
            have H := HA.out
            clear HA
            simp only [spec_l6Right.l0] at H
            by_cases c9 : x7_2 < (l1.length : Int)
            · rw [if_pos c9] at H
              have c9b0 : decide (x7_2 < (l1.length : Int)) = true := decide_eq_true c9
              clear c9
              by_cases c10 : 0 ≤ x7_2
              · rw [if_pos c10] at H
                have c10b0 : decide (0 ≤ x7_2) = true := decide_eq_true c10
                clear c10
                replace H := Option.bind_eq_some_iff.mp H
                obtain ⟨t103, A110, H⟩ := H
                replace H : (if t103 = true then (if x7_2 < (l2.length : Int) then ((spec_l1In.f (rd l2 x7_2) 0 10000).bind fun t105 => (if t105 = true then (spec_l6Right.l0 k2 l1 l2 (wrap64 (x7_2 + 1))) else (some false))) else (none)) else (some false)) = some r := H
                have A11 := Aside0.mk A110
                clear A110
                by_cases c12 : t103 = true
                · subst c12
                  have H1 : (if x7_2 < (l2.length : Int) then ((spec_l1In.f (rd l2 x7_2) 0 10000).bind fun t105 => (if t105 = true then (spec_l6Right.l0 k2 l1 l2 (wrap64 (x7_2 + 1))) else (some false))) else (none)) = some r := by rw [if_pos rfl] at H; exact H
                  clear H
                  have H := H1
                  clear H1
                  by_cases c13 : x7_2 < (l2.length : Int)
                  · rw [if_pos c13] at H
                    have c13b0 : decide (x7_2 < (l2.length : Int)) = true := decide_eq_true c13
                    clear c13
                    replace H := Option.bind_eq_some_iff.mp H
                    obtain ⟨t105, A140, H⟩ := H
                    replace H : (if t105 = true then (spec_l6Right.l0 k2 l1 l2 (wrap64 (x7_2 + 1))) else (some false)) = some r := H
                    have A14 := Aside0.mk A140
                    clear A140
                    by_cases c15 : t105 = true
                    · subst c15
                      have H1 : (spec_l6Right.l0 k2 l1 l2 (wrap64 (x7_2 + 1))) = some r := by rw [if_pos rfl] at H; exact H
                      clear H
                      have H := H1
                      clear H1
                      have H' := Aside0.mk H
                      clear H
                      have p102 : 0 ≤ (x7_2 : Int) := of_decide_eq_true (by first | (with_reducible assumption) | assumption)
                      have q102 : x7_2 < (l1.length : Int) := of_decide_eq_true (by first | (with_reducible assumption) | assumption)
                      obtain ⟨ad102, e102, hx102_0⟩ := Kd.at_int HR1.out x7_2 p102 q102
                      cases e102
                      replace p102 := eq_true p102
                      replace q102 := eq_true q102
                      go_wp2_with (first | ((with_reducible refine gate_callee (f := 30) rfl ?_); refine goesL_ (some 33) rfl rfl Try.func30 (by kernel_rfl) rfl #[.int .i64 (rd l1 x7_2), .int .i64 0, .int .i64 1000] rfl (by (try simp only [List.map_toArray, List.map_cons, List.map_nil]); first | done | rfl | (simp only [List.length_drop, List.length_take]; rfl)) ?_; (with_reducible refine (spec_l1In.calls (rd l1 x7_2) 0 1000 true _ A11.out).mono ?_); rintro e w' ⟨rfl, ⟨nd, rfl⟩⟩; refine ⟨_, rfl, ?_⟩; have p104 : 0 ≤ (x7_2 : Int) := of_decide_eq_true (by first | (with_reducible assumption) | assumption); have q104 : x7_2 < (l2.length : Int) := of_decide_eq_true (by first | (with_reducible assumption) | assumption); obtain ⟨ad104, e104, hx104_0⟩ := Kd.at_int HR2.out x7_2 p104 q104; cases e104; replace p104 := eq_true p104; replace q104 := eq_true q104) | (go_at_call 30; (with_reducible refine (spec_l1In.calls (rd l2 x7_2) 0 10000 true _ A14.out).mono ?_); rintro e w' ⟨rfl, ⟨nd, rfl⟩⟩))
                      go_roundg k2
                      case measure => have := HJ3.out; have := HK2.out; omega
                      case rel => exact ⟨(wrap64 (x7_2 + 1)), (by first | rfl | (simp; done) | (simp [*]; done)), H', ⟨by have := HJ3.out; have := HK2.out; omega⟩, by repeat (first | exact Drawn0.refl _ | apply Drawn0.step)⟩
                    · replace c15 := Bool.eq_false_iff.mpr c15
                      subst c15
                      have H1 : (some false) = some r := by rw [if_neg (show ¬ (false = true) by decide)] at H; exact H
                      clear H
                      have H := H1
                      clear H1
                      obtain rfl := Option.some.inj H
                      have p102 : 0 ≤ (x7_2 : Int) := of_decide_eq_true (by first | (with_reducible assumption) | assumption)
                      have q102 : x7_2 < (l1.length : Int) := of_decide_eq_true (by first | (with_reducible assumption) | assumption)
                      obtain ⟨ad102, e102, hx102_0⟩ := Kd.at_int HR1.out x7_2 p102 q102
                      cases e102
                      replace p102 := eq_true p102
                      replace q102 := eq_true q102
                      go_wp2_with (first | ((with_reducible refine gate_callee (f := 30) rfl ?_); refine goesL_ (some 33) rfl rfl Try.func30 (by kernel_rfl) rfl #[.int .i64 (rd l1 x7_2), .int .i64 0, .int .i64 1000] rfl (by (try simp only [List.map_toArray, List.map_cons, List.map_nil]); first | done | rfl | (simp only [List.length_drop, List.length_take]; rfl)) ?_; (with_reducible refine (spec_l1In.calls (rd l1 x7_2) 0 1000 true _ A11.out).mono ?_); rintro e w' ⟨rfl, ⟨nd, rfl⟩⟩; refine ⟨_, rfl, ?_⟩; have p104 : 0 ≤ (x7_2 : Int) := of_decide_eq_true (by first | (with_reducible assumption) | assumption); have q104 : x7_2 < (l2.length : Int) := of_decide_eq_true (by first | (with_reducible assumption) | assumption); obtain ⟨ad104, e104, hx104_0⟩ := Kd.at_int HR2.out x7_2 p104 q104; cases e104; replace p104 := eq_true p104; replace q104 := eq_true q104) | (go_at_call 30; (with_reducible refine (spec_l1In.calls (rd l2 x7_2) 0 10000 false _ A14.out).mono ?_); rintro e w' ⟨rfl, ⟨nd, rfl⟩⟩))
                      go_ret
                      exact ⟨by first | rfl | (simp; done) | (simp [*]; done), by repeat (first | exact Drawn0.refl _ | apply Drawn0.step)⟩
                  · rw [if_neg c13] at H
                    exact absurd H (by simp)
                · replace c12 := Bool.eq_false_iff.mpr c12
                  subst c12
                  have H1 : (some false) = some r := by rw [if_neg (show ¬ (false = true) by decide)] at H; exact H
                  clear H
                  have H := H1
                  clear H1
                  obtain rfl := Option.some.inj H
                  have p102 : 0 ≤ (x7_2 : Int) := of_decide_eq_true (by first | (with_reducible assumption) | assumption)
                  have q102 : x7_2 < (l1.length : Int) := of_decide_eq_true (by first | (with_reducible assumption) | assumption)
                  obtain ⟨ad102, e102, hx102_0⟩ := Kd.at_int HR1.out x7_2 p102 q102
                  cases e102
                  replace p102 := eq_true p102
                  replace q102 := eq_true q102
                  go_wp2_with (first | ((with_reducible refine gate_callee (f := 30) rfl ?_); refine goesL_ (some 33) rfl rfl Try.func30 (by kernel_rfl) rfl #[.int .i64 (rd l1 x7_2), .int .i64 0, .int .i64 1000] rfl (by (try simp only [List.map_toArray, List.map_cons, List.map_nil]); first | done | rfl | (simp only [List.length_drop, List.length_take]; rfl)) ?_; (with_reducible refine (spec_l1In.calls (rd l1 x7_2) 0 1000 false _ A11.out).mono ?_); rintro e w' ⟨rfl, ⟨nd, rfl⟩⟩; refine ⟨_, rfl, ?_⟩))
                  go_ret
                  exact ⟨by first | rfl | (simp; done) | (simp [*]; done), by repeat (first | exact Drawn0.refl _ | apply Drawn0.step)⟩
              · rw [if_neg c10] at H
                exact absurd H (by simp)
            · rw [if_neg c9] at H
              have c9b0 : decide (x7_2 < (l1.length : Int)) = false := decide_eq_false c9
              clear c9
              obtain rfl := Option.some.inj H
              go_wp2
              go_ret
              exact ⟨by first | rfl | (simp; done) | (simp [*]; done), by repeat (first | exact Drawn0.refl _ | apply Drawn0.step)⟩

end Go.Proofs.Yteilcchcekmooaa.G

/- G14 -/
-- Laid by wip/g/gprint.py out of the translation, by the kit's print program. Lean checks it.
namespace Go.Proofs.Yteilcchcekmooaa.G
open Go.RowKit Go.Proofs.YteilcchcekmooaaW.PrintWords Go.Proofs.YteilcchcekmooaaW.PrintLast Go.Proofs.YteilcchcekmooaaW.PrintMore
attribute [local go_sem] max2_int min2_int max_two min_two max_three min_three max_four min_four   -- for this text's walks alone
set_option linter.unusedVariables false
set_option linter.unusedSimpArgs false

/-! ### impl_Total: function 14 -/
def impl_Total.l0 : Nat → Int → List Int → Int → List Int → Int → Int → Option (Int)
  | 0, _, _, _, _, _, _ => none
  | k + 1, x0, x2, x7, x15, x16, x17 => if x17 < x16 then (if 0 ≤ x17 then (if x17 < (x15.length : Int) then (if (rd x15 x17) > 0 then (if x17 < (x2.length : Int) then (impl_Total.l0 k x0 x2 (wrap64 (x7 + (rd x2 x17))) x15 x16 (wrap64 (x17 + 1))) else (none)) else (impl_Total.l0 k x0 x2 x7 x15 x16 (wrap64 (x17 + 1)))) else (none)) else (none)) else (some (mn x0 x7))
def impl_Total.f (k : Nat) (a0 : Int) (l1 : List Int) (l2 : List Int) : Option (Int) := (impl_sharesOk.f a0 l1 l2).bind fun t333 => (if t333 = true then (impl_Total.l0 k a0 l2 0 l1 (l1.length : Int) 0) else (some (-1)))
set_option maxHeartbeats 8000000 in
set_option maxRecDepth 100000 in
theorem impl_Total.calls (k : Nat) (a0 : Int) (A1 : Option Addr) (c1 : Nat) (l1 : List Int) (A2 : Option Addr) (c2 : Nat) (l2 : List Int) (r : Int) (w : World) (hr1 : Kd.C (Kd.int .i64) w A1 l1.length l1) (hc1 : l1.length ≤ c1) (hr2 : Kd.C (Kd.int .i64) w A2 l2.length l2) (hc2 : l2.length ≤ c2) (h : impl_Total.f k a0 l1 l2 = some r) :
    Calls Try.prog 14 #[.int .i64 a0, .slice A1 l1.length c1, .slice A2 l2.length c2] w fun e w' => e = .returned (.int .i64 r) ∧ Below w.heap.size w w' := by
  have HR1 := Aside0.mk hr1
  have HC1 := Aside0.mk hc1
  clear hr1 hc1
  have HR2 := Aside0.mk hr2
  have HC2 := Aside0.mk hc2
  clear hr2 hc2
  have HB := Aside0.mk (Below.refl w.heap.size w)
  have H : ((impl_sharesOk.f a0 l1 l2).bind fun t333 => (if t333 = true then (impl_Total.l0 k a0 l2 0 l1 (l1.length : Int) 0) else (some (-1)))) = some r := h
  clear h
  replace H := Option.bind_eq_some_iff.mp H
  obtain ⟨t333, A40, H⟩ := H
  replace H : (if t333 = true then (impl_Total.l0 k a0 l2 0 l1 (l1.length : Int) 0) else (some (-1))) = some r := H
  have A4 := Aside0.mk A40
  clear A40
  by_cases c5 : t333 = true
  · subst c5
    have H1 : (impl_Total.l0 k a0 l2 0 l1 (l1.length : Int) 0) = some r := by rw [if_pos rfl] at H; exact H
    clear H
    have H := H1
    clear H1
    have H' := Aside0.mk H
    clear H
    go_enter Try.func14, Try.ntmps14
    go_wp2_with (first | ((with_reducible refine gate_callee (f := 22) rfl ?_); refine goesL_ (some 13) rfl rfl Try.func22 (by kernel_rfl) rfl #[.int .i64 a0, .slice A1 l1.length c1, .slice A2 l2.length c2] rfl (by (try simp only [List.map_toArray, List.map_cons, List.map_nil]); first | done | rfl | (simp only [List.length_drop, List.length_take]; rfl)) ?_; (with_reducible refine (impl_sharesOk.calls a0 _ _ l1 _ _ l2 true _ ?side1 ?side2 ?side3 ?side4 A4.out).mono ?_); (case side1 => repeat (first | exact HR1.out | (with_reducible refine Kd.C_alloc ?_ _) | (with_reducible refine Kd.C_drewN ?_ _) | (with_reducible refine Kd.C_drew ?_))); (case side2 => exact HC1.out); (case side3 => repeat (first | exact HR2.out | (with_reducible refine Kd.C_alloc ?_ _) | (with_reducible refine Kd.C_drewN ?_ _) | (with_reducible refine Kd.C_drew ?_))); (case side4 => exact HC2.out); rintro e w6 ⟨rfl, hb⟩; refine ⟨_, rfl, ?_⟩; have n0_ := Aside0.mk (below_step (by repeat (first | (with_reducible first | exact HB.out | apply below_alloc | apply pw_below_drewN | apply below_drew1) | exact HB.out)) hb); clear HB; have HB := n0_; clear n0_; (try clear hb); (try clear hb2); (try clear hk); (try clear hi)))
    go_loopg [7, 17] k (fun kq v7 v17 w' => ∃ (x7_1 : Int) (x17_1 : Int), v7 = .int .i64 x7_1 ∧ v17 = .int .i64 x17_1 ∧ Aside0 (impl_Total.l0 kq a0 l2 x7_1 l1 (l1.length : Int) x17_1 = some r) ∧ Aside0 (kq ≤ k) ∧ Aside0 (Below w.heap.size w w'))
    case atStart => exact ⟨(0), (0), (by first | rfl | (simp; done) | (simp [*]; done)), (by first | rfl | (simp; done) | (simp [*]; done)), H', ⟨Nat.le_refl _⟩, ⟨by repeat (first | (with_reducible first | exact HB.out | apply below_alloc | apply pw_below_drewN | apply below_drew1) | exact HB.out)⟩⟩
    case round =>
      clear H'
      try clear c1
      try clear c2
      try clear p2
      try clear c5
      obtain ⟨x7_1, x17_1, rfl, rfl, HA, HK1, HB⟩ := hrel
      cases gk with
      | zero => exact absurd HA.out (by simp [impl_Total.l0])
      | succ k1 =>
        have H := HA.out
        clear HA
        simp only [impl_Total.l0] at H
        by_cases c7 : x17_1 < (l1.length : Int)
        · rw [if_pos c7] at H
          have c7b0 : decide (x17_1 < (l1.length : Int)) = true := decide_eq_true c7
          clear c7
          by_cases c8 : 0 ≤ x17_1
          · rw [if_pos c8] at H
            have c8b0 : decide (0 ≤ x17_1) = true := decide_eq_true c8
            clear c8
            by_cases c9 : x17_1 < (l1.length : Int)
            · rw [if_pos c9] at H
              have c9b0 : decide (x17_1 < (l1.length : Int)) = true := decide_eq_true c9
              clear c9
              by_cases c10 : (rd l1 x17_1) > 0
              · rw [if_pos c10] at H
                have c10b0 : decide (0 < (rd l1 x17_1)) = true := decide_eq_true c10
                clear c10
                by_cases c11 : x17_1 < (l2.length : Int)
                · rw [if_pos c11] at H
                  have c11b0 : decide (x17_1 < (l2.length : Int)) = true := decide_eq_true c11
                  clear c11
                  have H' := Aside0.mk H
                  clear H
                  have p334 : 0 ≤ (x17_1 : Int) := of_decide_eq_true (by first | (with_reducible assumption) | assumption)
                  have q334 : x17_1 < (l1.length : Int) := of_decide_eq_true (by first | (with_reducible assumption) | assumption)
                  obtain ⟨ad334, e334, hx334_0⟩ := Kd.at_int HR1.out x17_1 p334 q334
                  cases e334
                  replace hx334_0 := (HB.out.cell (World.block_lt_of_cell? w _ hx334_0)).trans hx334_0
                  replace p334 := eq_true p334
                  replace q334 := eq_true q334
                  have p335 : 0 ≤ (x17_1 : Int) := of_decide_eq_true (by first | (with_reducible assumption) | assumption)
                  have q335 : x17_1 < (l2.length : Int) := of_decide_eq_true (by first | (with_reducible assumption) | assumption)
                  obtain ⟨ad335, e335, hx335_0⟩ := Kd.at_int HR2.out x17_1 p335 q335
                  cases e335
                  replace hx335_0 := (HB.out.cell (World.block_lt_of_cell? w _ hx335_0)).trans hx335_0
                  replace p335 := eq_true p335
                  replace q335 := eq_true q335
                  go_wp2
                  go_roundg k1
                  case measure => have := HK1.out; omega
                  case rel => exact ⟨(wrap64 (x7_1 + (rd l2 x17_1))), (wrap64 (x17_1 + 1)), (by first | rfl | (simp; done) | (simp [*]; done)), (by first | rfl | (simp; done) | (simp [*]; done)), H', ⟨by have := HK1.out; omega⟩, ⟨by repeat (first | (with_reducible first | exact HB.out | apply below_alloc | apply pw_below_drewN | apply below_drew1) | exact HB.out)⟩⟩
                · rw [if_neg c11] at H
                  exact absurd H (by simp)
              · rw [if_neg c10] at H
                have c10b0 : decide (0 < (rd l1 x17_1)) = false := decide_eq_false c10
                clear c10
                have H' := Aside0.mk H
                clear H
                have p334 : 0 ≤ (x17_1 : Int) := of_decide_eq_true (by first | (with_reducible assumption) | assumption)
                have q334 : x17_1 < (l1.length : Int) := of_decide_eq_true (by first | (with_reducible assumption) | assumption)
                obtain ⟨ad334, e334, hx334_0⟩ := Kd.at_int HR1.out x17_1 p334 q334
                cases e334
                replace hx334_0 := (HB.out.cell (World.block_lt_of_cell? w _ hx334_0)).trans hx334_0
                replace p334 := eq_true p334
                replace q334 := eq_true q334
                go_wp2
                go_roundg k1
                case measure => have := HK1.out; omega
                case rel => exact ⟨(x7_1), (wrap64 (x17_1 + 1)), (by first | rfl | (simp; done) | (simp [*]; done)), (by first | rfl | (simp; done) | (simp [*]; done)), H', ⟨by have := HK1.out; omega⟩, ⟨by repeat (first | (with_reducible first | exact HB.out | apply below_alloc | apply pw_below_drewN | apply below_drew1) | exact HB.out)⟩⟩
            · rw [if_neg c9] at H
              exact absurd H (by simp)
          · rw [if_neg c8] at H
            exact absurd H (by simp)
        · rw [if_neg c7] at H
          have c7b0 : decide (x17_1 < (l1.length : Int)) = false := decide_eq_false c7
          clear c7
          obtain ⟨ji12, hji12⟩ : ∃ j_ : Int, (mn a0 x7_1) = j_ := ⟨_, rfl⟩
          replace H : (some ji12) = some r := by first | (rw [hji12] at H; exact H) | (simp only [hji12] at H ⊢; exact H)
          have hji12_ : (if x7_1 < a0 then x7_1 else a0) = ji12 := hji12
          obtain rfl := Option.some.inj H
          go_wp2
          go_ret
          exact ⟨by first | rfl | (simp [errW_none, errW_some] <;> rfl) | (simp only [← hji12]; first | rfl | (simp [errW_none, errW_some] <;> rfl)) | (simp [*, errW_none, errW_some] <;> rfl), by repeat (first | (with_reducible first | exact HB.out | apply below_alloc | apply pw_below_drewN | apply below_drew1) | exact HB.out)⟩
  · replace c5 := Bool.eq_false_iff.mpr c5
    subst c5
    have H1 : (some (-1)) = some r := by rw [if_neg (show ¬ (false = true) by decide)] at H; exact H
    clear H
    have H := H1
    clear H1
    obtain rfl := Option.some.inj H
    go_enter Try.func14, Try.ntmps14
    go_wp2_with (first | ((with_reducible refine gate_callee (f := 22) rfl ?_); refine goesL_ (some 13) rfl rfl Try.func22 (by kernel_rfl) rfl #[.int .i64 a0, .slice A1 l1.length c1, .slice A2 l2.length c2] rfl (by (try simp only [List.map_toArray, List.map_cons, List.map_nil]); first | done | rfl | (simp only [List.length_drop, List.length_take]; rfl)) ?_; (with_reducible refine (impl_sharesOk.calls a0 _ _ l1 _ _ l2 false _ ?side1 ?side2 ?side3 ?side4 A4.out).mono ?_); (case side1 => repeat (first | exact HR1.out | (with_reducible refine Kd.C_alloc ?_ _) | (with_reducible refine Kd.C_drewN ?_ _) | (with_reducible refine Kd.C_drew ?_))); (case side2 => exact HC1.out); (case side3 => repeat (first | exact HR2.out | (with_reducible refine Kd.C_alloc ?_ _) | (with_reducible refine Kd.C_drewN ?_ _) | (with_reducible refine Kd.C_drew ?_))); (case side4 => exact HC2.out); rintro e w13 ⟨rfl, hb⟩; refine ⟨_, rfl, ?_⟩; have n0_ := Aside0.mk (below_step (by repeat (first | (with_reducible first | exact HB.out | apply below_alloc | apply pw_below_drewN | apply below_drew1) | exact HB.out)) hb); clear HB; have HB := n0_; clear n0_; (try clear hb); (try clear hb2); (try clear hk); (try clear hi)))
    go_ret
    exact ⟨by first | rfl | (simp [errW_none, errW_some] <;> rfl) | (simp [*, errW_none, errW_some] <;> rfl), by repeat (first | (with_reducible first | exact HB.out | apply below_alloc | apply pw_below_drewN | apply below_drew1) | exact HB.out)⟩

end Go.Proofs.Yteilcchcekmooaa.G

/- G15 -/
-- Laid by wip/g/gprint.py out of the translation, by the kit's print program. Lean checks it.
namespace Go.Proofs.Yteilcchcekmooaa.G
open Go.RowKit Go.Proofs.YteilcchcekmooaaW.PrintWords Go.Proofs.YteilcchcekmooaaW.PrintLast Go.Proofs.YteilcchcekmooaaW.PrintMore
attribute [local go_sem] max2_int min2_int max_two min_two max_three min_three max_four min_four   -- for this text's walks alone
set_option linter.unusedVariables false
set_option linter.unusedSimpArgs false

/-! ### spec_Total: function 15 -/
def spec_Total.l0 : Nat → Int → List Int → List Int → Int → Int → Option (Int)
  | 0, _, _, _, _, _ => none
  | k + 1, x0, x1, x2, x7, x8 => if x8 < (x1.length : Int) then (if 0 ≤ x8 then (if (rd x1 x8) > 0 then (if x8 < (x2.length : Int) then (spec_Total.l0 k x0 x1 x2 (wrap64 (x7 + (rd x2 x8))) (wrap64 (x8 + 1))) else (none)) else (spec_Total.l0 k x0 x1 x2 x7 (wrap64 (x8 + 1)))) else (none)) else (if x0 < x7 then (some x0) else (some x7))
def spec_Total.f (k : Nat) (a0 : Int) (l1 : List Int) (l2 : List Int) : Option (Int) := (spec_l6Right.f k a0 l1 l2).bind fun t336 => (if t336 = true then (spec_Total.l0 k a0 l1 l2 0 0) else (some (-1)))
set_option maxHeartbeats 8000000 in
set_option maxRecDepth 100000 in
theorem spec_Total.calls (k : Nat) (a0 : Int) (A1 : Option Addr) (c1 : Nat) (l1 : List Int) (A2 : Option Addr) (c2 : Nat) (l2 : List Int) (r : Int) (w : World) (hr1 : Kd.C (Kd.int .i64) w A1 l1.length l1) (hc1 : l1.length ≤ c1) (hr2 : Kd.C (Kd.int .i64) w A2 l2.length l2) (hc2 : l2.length ≤ c2) (h : spec_Total.f k a0 l1 l2 = some r) :
    Calls Try.prog 15 #[.int .i64 a0, .slice A1 l1.length c1, .slice A2 l2.length c2] w fun e w' => e = .returned (.int .i64 r) ∧ Drawn0 w w' := by
  have HR1 := Aside0.mk hr1
  have HC1 := Aside0.mk hc1
  clear hr1 hc1
  have HR2 := Aside0.mk hr2
  have HC2 := Aside0.mk hc2
  clear hr2 hc2
  have H : ((spec_l6Right.f k a0 l1 l2).bind fun t336 => (if t336 = true then (spec_Total.l0 k a0 l1 l2 0 0) else (some (-1)))) = some r := h
  clear h
  replace H := Option.bind_eq_some_iff.mp H
  obtain ⟨t336, A40, H⟩ := H
  replace H : (if t336 = true then (spec_Total.l0 k a0 l1 l2 0 0) else (some (-1))) = some r := H
  have A4 := Aside0.mk A40
  clear A40
  by_cases c5 : t336 = true
  · subst c5
    have H1 : (spec_Total.l0 k a0 l1 l2 0 0) = some r := by rw [if_pos rfl] at H; exact H
    clear H
    have H := H1
    clear H1
    have H' := Aside0.mk H
    clear H
    go_enter Try.func15, Try.ntmps15
    go_wp2_with (first | ((with_reducible refine gate_callee (f := 20) rfl ?_); refine goesL_ (some 12) rfl rfl Try.func20 (by kernel_rfl) rfl #[.int .i64 a0, .slice A1 l1.length c1, .slice A2 l2.length c2] rfl (by (try simp only [List.map_toArray, List.map_cons, List.map_nil]); first | done | rfl | (simp only [List.length_drop, List.length_take]; rfl)) ?_; (with_reducible refine (spec_l6Right.calls k a0 _ _ l1 _ _ l2 true _ ?side1 ?side2 ?side3 ?side4 A4.out).mono ?_); (case side1 => repeat (first | exact HR1.out | (with_reducible refine Kd.C_alloc ?_ _) | (with_reducible refine Kd.C_drewN ?_ _) | (with_reducible refine Kd.C_drew ?_))); (case side2 => exact HC1.out); (case side3 => repeat (first | exact HR2.out | (with_reducible refine Kd.C_alloc ?_ _) | (with_reducible refine Kd.C_drewN ?_ _) | (with_reducible refine Kd.C_drew ?_))); (case side4 => exact HC2.out); rintro e w' ⟨rfl, ⟨nd, rfl⟩⟩; refine ⟨_, rfl, ?_⟩))
    go_loopg [7, 8] k (fun kq v7 v8 w' => ∃ (x7_1 : Int) (x8_1 : Int), v7 = .int .i64 x7_1 ∧ v8 = .int .i64 x8_1 ∧ Aside0 (spec_Total.l0 kq a0 l1 l2 x7_1 x8_1 = some r) ∧ Aside0 (kq ≤ k) ∧ Drawn0 w w')
    case atStart => exact ⟨(0), (0), (by first | rfl | (simp; done) | (simp [*]; done)), (by first | rfl | (simp; done) | (simp [*]; done)), H', ⟨Nat.le_refl _⟩, by repeat (first | exact Drawn0.refl _ | apply Drawn0.step)⟩
    case round =>
      clear H'
      try clear c1
      try clear c2
      try clear p2
      try clear c5
      obtain ⟨x7_1, x8_1, rfl, rfl, HA, HK1, ⟨m1, rfl⟩⟩ := hrel
      cases gk with
      | zero => exact absurd HA.out (by simp [spec_Total.l0])
      | succ k1 =>
        have H := HA.out
        clear HA
        simp only [spec_Total.l0] at H
        by_cases c6 : x8_1 < (l1.length : Int)
        · rw [if_pos c6] at H
          have c6b0 : decide (x8_1 < (l1.length : Int)) = true := decide_eq_true c6
          clear c6
          by_cases c7 : 0 ≤ x8_1
          · rw [if_pos c7] at H
            have c7b0 : decide (0 ≤ x8_1) = true := decide_eq_true c7
            clear c7
            by_cases c8 : (rd l1 x8_1) > 0
            · rw [if_pos c8] at H
              have c8b0 : decide (0 < (rd l1 x8_1)) = true := decide_eq_true c8
              clear c8
              by_cases c9 : x8_1 < (l2.length : Int)
              · rw [if_pos c9] at H
                have c9b0 : decide (x8_1 < (l2.length : Int)) = true := decide_eq_true c9
                clear c9
                have H' := Aside0.mk H
                clear H
                have p337 : 0 ≤ (x8_1 : Int) := of_decide_eq_true (by first | (with_reducible assumption) | assumption)
                have q337 : x8_1 < (l1.length : Int) := of_decide_eq_true (by first | (with_reducible assumption) | assumption)
                obtain ⟨ad337, e337, hx337_0⟩ := Kd.at_int HR1.out x8_1 p337 q337
                cases e337
                replace p337 := eq_true p337
                replace q337 := eq_true q337
                have p338 : 0 ≤ (x8_1 : Int) := of_decide_eq_true (by first | (with_reducible assumption) | assumption)
                have q338 : x8_1 < (l2.length : Int) := of_decide_eq_true (by first | (with_reducible assumption) | assumption)
                obtain ⟨ad338, e338, hx338_0⟩ := Kd.at_int HR2.out x8_1 p338 q338
                cases e338
                replace p338 := eq_true p338
                replace q338 := eq_true q338
                go_wp2
                go_roundg k1
                case measure => have := HK1.out; omega
                case rel => exact ⟨(wrap64 (x7_1 + (rd l2 x8_1))), (wrap64 (x8_1 + 1)), (by first | rfl | (simp; done) | (simp [*]; done)), (by first | rfl | (simp; done) | (simp [*]; done)), H', ⟨by have := HK1.out; omega⟩, by repeat (first | exact Drawn0.refl _ | apply Drawn0.step)⟩
              · rw [if_neg c9] at H
                exact absurd H (by simp)
            · rw [if_neg c8] at H
              have c8b0 : decide (0 < (rd l1 x8_1)) = false := decide_eq_false c8
              clear c8
              have H' := Aside0.mk H
              clear H
              have p337 : 0 ≤ (x8_1 : Int) := of_decide_eq_true (by first | (with_reducible assumption) | assumption)
              have q337 : x8_1 < (l1.length : Int) := of_decide_eq_true (by first | (with_reducible assumption) | assumption)
              obtain ⟨ad337, e337, hx337_0⟩ := Kd.at_int HR1.out x8_1 p337 q337
              cases e337
              replace p337 := eq_true p337
              replace q337 := eq_true q337
              go_wp2
              go_roundg k1
              case measure => have := HK1.out; omega
              case rel => exact ⟨(x7_1), (wrap64 (x8_1 + 1)), (by first | rfl | (simp; done) | (simp [*]; done)), (by first | rfl | (simp; done) | (simp [*]; done)), H', ⟨by have := HK1.out; omega⟩, by repeat (first | exact Drawn0.refl _ | apply Drawn0.step)⟩
          · rw [if_neg c7] at H
            exact absurd H (by simp)
        · rw [if_neg c6] at H
          have c6b0 : decide (x8_1 < (l1.length : Int)) = false := decide_eq_false c6
          clear c6
          by_cases c10 : a0 < x7_1
          · rw [if_pos c10] at H
            have c10b0 : decide (a0 < x7_1) = true := decide_eq_true c10
            clear c10
            obtain rfl := Option.some.inj H
            go_wp2
            go_ret
            exact ⟨by first | rfl | (simp; done) | (simp [*]; done), by repeat (first | exact Drawn0.refl _ | apply Drawn0.step)⟩
          · rw [if_neg c10] at H
            have c10b0 : decide (a0 < x7_1) = false := decide_eq_false c10
            clear c10
            obtain rfl := Option.some.inj H
            go_wp2
            go_ret
            exact ⟨by first | rfl | (simp; done) | (simp [*]; done), by repeat (first | exact Drawn0.refl _ | apply Drawn0.step)⟩
  · replace c5 := Bool.eq_false_iff.mpr c5
    subst c5
    have H1 : (some (-1)) = some r := by rw [if_neg (show ¬ (false = true) by decide)] at H; exact H
    clear H
    have H := H1
    clear H1
    obtain rfl := Option.some.inj H
    go_enter Try.func15, Try.ntmps15
    go_wp2_with (first | ((with_reducible refine gate_callee (f := 20) rfl ?_); refine goesL_ (some 12) rfl rfl Try.func20 (by kernel_rfl) rfl #[.int .i64 a0, .slice A1 l1.length c1, .slice A2 l2.length c2] rfl (by (try simp only [List.map_toArray, List.map_cons, List.map_nil]); first | done | rfl | (simp only [List.length_drop, List.length_take]; rfl)) ?_; (with_reducible refine (spec_l6Right.calls k a0 _ _ l1 _ _ l2 false _ ?side1 ?side2 ?side3 ?side4 A4.out).mono ?_); (case side1 => repeat (first | exact HR1.out | (with_reducible refine Kd.C_alloc ?_ _) | (with_reducible refine Kd.C_drewN ?_ _) | (with_reducible refine Kd.C_drew ?_))); (case side2 => exact HC1.out); (case side3 => repeat (first | exact HR2.out | (with_reducible refine Kd.C_alloc ?_ _) | (with_reducible refine Kd.C_drewN ?_ _) | (with_reducible refine Kd.C_drew ?_))); (case side4 => exact HC2.out); rintro e w' ⟨rfl, ⟨nd, rfl⟩⟩; refine ⟨_, rfl, ?_⟩))
    go_ret
    exact ⟨by first | rfl | (simp; done) | (simp [*]; done), by repeat (first | exact Drawn0.refl _ | apply Drawn0.step)⟩

end Go.Proofs.Yteilcchcekmooaa.G

/- PDivA -/
/-
  Shares: when the arguments of a division are right; the total.
-/
namespace Go.Proofs.Yteilcchcekmooaa.G
open Go.RowKit Go.Proofs.YteilcchcekmooaaW.PrintWords Go.Proofs.YteilcchcekmooaaW.PrintLast Go.Proofs.YteilcchcekmooaaW.PrintMore
set_option linter.unusedVariables false
set_option linter.unusedSimpArgs false
/-! ### lists told by their places -/
def mapR (N : Nat) (f : Nat → Int) : List Int := (List.range N).map f
def mapB (N : Nat) (f : Nat → Bool) : List Bool := (List.range N).map f
theorem mapR_len (N : Nat) (f : Nat → Int) : (mapR N f).length = N := by simp [mapR]
theorem mapB_len (N : Nat) (f : Nat → Bool) : (mapB N f).length = N := by simp [mapB]
theorem mapR_rd {N : Nat} (f : Nat → Int) {i : Nat} (h : i < N) : rd (mapR N f) (i : Int) = f i := by
  unfold rd mapR
  rw [Int.toNat_natCast, List.getD_eq_getElem?_getD, List.getElem?_eq_getElem (by simpa using h)]
  simp
theorem mapB_rd {N : Nat} (f : Nat → Bool) {i : Nat} (h : i < N) : rdOf false (mapB N f) (i : Int) = f i := by
  unfold rdOf mapB
  rw [Int.toNat_natCast, List.getD_eq_getElem?_getD, List.getElem?_eq_getElem (by simpa using h)]
  simp
theorem mapR_congr {N : Nat} {f g : Nat → Int} (h : ∀ i, i < N → f i = g i) : mapR N f = mapR N g := List.map_congr_left (fun i hi => h i (List.mem_range.1 hi))
theorem mapB_congr {N : Nat} {f g : Nat → Bool} (h : ∀ i, i < N → f i = g i) : mapB N f = mapB N g := List.map_congr_left (fun i hi => h i (List.mem_range.1 hi))
theorem mapR_set {N : Nat} (f : Nat → Int) (i : Nat) (v : Int) : (mapR N f).set i v = mapR N (fun j => if j = i then v else f j) := by
  apply List.ext_getElem
  · simp [mapR]
  · intro j h1 h2
    rw [List.getElem_set]
    simp only [mapR, List.getElem_map, List.getElem_range]
    by_cases e : i = j
    · subst e; simp
    · rw [if_neg e, if_neg (fun h => e h.symm)]
theorem mapB_set {N : Nat} (f : Nat → Bool) (i : Nat) (v : Bool) : (mapB N f).set i v = mapB N (fun j => if j = i then v else f j) := by
  apply List.ext_getElem
  · simp [mapB]
  · intro j h1 h2
    rw [List.getElem_set]
    simp only [mapB, List.getElem_map, List.getElem_range]
    by_cases e : i = j
    · subst e; simp
    · rw [if_neg e, if_neg (fun h => e h.symm)]
theorem mapR_repl (N : Nat) : List.replicate N 0 = mapR N (fun _ => 0) := by
  apply List.ext_getElem <;> simp [mapR]
theorem mapB_repl (N : Nat) : List.replicate N false = mapB N (fun _ => false) := by
  apply List.ext_getElem <;> simp [mapB]
def sumR (f : Nat → Int) : Nat → Int
  | 0 => 0
  | k + 1 => sumR f k + f k
theorem sumR_congr {f g : Nat → Int} : ∀ {n : Nat}, (∀ i, i < n → f i = g i) → sumR f n = sumR g n
  | 0, _ => rfl
  | n + 1, h => by rw [sumR, sumR, sumR_congr (fun i hi => h i (by omega)), h n (by omega)]
theorem sumR_add (f g : Nat → Int) : ∀ n, sumR (fun i => f i + g i) n = sumR f n + sumR g n
  | 0 => rfl
  | n + 1 => by rw [sumR, sumR, sumR, sumR_add f g n]; omega
theorem sumR_le {f g : Nat → Int} : ∀ {n : Nat}, (∀ i, i < n → f i ≤ g i) → sumR f n ≤ sumR g n
  | 0, _ => Int.le_refl _
  | n + 1, h => by
    rw [sumR, sumR]
    have := sumR_le (f := f) (g := g) (n := n) (fun i hi => h i (by omega))
    have := h n (by omega)
    omega
theorem sumR_zero : ∀ n, sumR (fun _ => 0) n = 0
  | 0 => rfl
  | n + 1 => by rw [sumR, sumR_zero n]; rfl
theorem sumR_nonneg {f : Nat → Int} {n : Nat} (h : ∀ i, i < n → 0 ≤ f i) : 0 ≤ sumR f n := by
  have := sumR_le (f := fun _ => 0) (g := f) h
  rwa [sumR_zero] at this
/-- One of them is more than 0. -/
theorem sumR_pos {f : Nat → Int} : ∀ {n : Nat}, (∀ i, i < n → 0 ≤ f i) → ∀ i, i < n → 0 < f i → 0 < sumR f n
  | n + 1, h, i, hi, hp => by
    rw [sumR]
    by_cases e : i = n
    · subst e
      have := sumR_nonneg (f := f) (n := i) (fun j hj => h j (by omega))
      omega
    · have := sumR_pos (f := f) (n := n) (fun j hj => h j (by omega)) i (by omega) hp
      have := h n (by omega)
      omega
/-! ### right arguments -/
structure ShOk (n : Int) (ws cs : List Int) : Prop where
  n0 : 0 ≤ n
  n1 : n ≤ 10000
  l1 : ws.length ≤ 64
  l2 : cs.length = ws.length
  w : ∀ i : Nat, i < ws.length → 0 ≤ rd ws (i : Int) ∧ rd ws (i : Int) ≤ 1000
  c : ∀ i : Nat, i < ws.length → 0 ≤ rd cs (i : Int) ∧ rd cs (i : Int) ≤ 10000
def shOk (n : Int) (ws cs : List Int) : Bool := decide (0 ≤ n) && decide (n ≤ 10000) && decide (ws.length ≤ 64) && decide (cs.length = ws.length) && allN ws.length (fun i => decide (0 ≤ rd ws (i : Int)) && decide (rd ws (i : Int) ≤ 1000)) && allN ws.length (fun i => decide (0 ≤ rd cs (i : Int)) && decide (rd cs (i : Int) ≤ 10000))
theorem shOk_iff {n : Int} {ws cs : List Int} : shOk n ws cs = true ↔ ShOk n ws cs := by
  unfold shOk
  simp only [Bool.and_eq_true, decide_eq_true_eq, allN_true]
  exact ⟨fun h => ⟨h.1.1.1.1.1, h.1.1.1.1.2, h.1.1.1.2, h.1.1.2, h.1.2, h.2⟩, fun h => ⟨⟨⟨⟨⟨h.n0, h.n1⟩, h.l1⟩, h.l2⟩, h.w⟩, h.c⟩⟩
theorem rd_cons (x : Int) (xs : List Int) (k : Nat) : rd (x :: xs) ((k + 1 : Nat) : Int) = rd xs (k : Int) := by unfold rd; rw [Int.toNat_natCast, Int.toNat_natCast]; rfl
theorem idxO_all (p : Int → Bool) (f : Int → Option Bool) (hf : ∀ x, f x = some (p x)) : ∀ (l : List Int) (s : Nat), ∃ i, idxO f l s = some i ∧ (0 ≤ i ↔ ∃ k : Nat, k < l.length ∧ p (rd l (k : Int)) = true)
  | [], s => ⟨-1, by rw [idxO], by simp⟩
  | x :: xs, s => by
    rw [idxO, hf x]
    simp only [Option.bind_some]
    cases hp : p x with
    | true => exact ⟨s, by simp, ⟨fun _ => ⟨0, by simp, by simpa [rd] using hp⟩, fun _ => by omega⟩⟩
    | false =>
      obtain ⟨i, hi, hh⟩ := idxO_all p f hf xs (s + 1)
      refine ⟨i, by simpa using hi, hh.trans ⟨fun ⟨k, hk, h⟩ => ⟨k + 1, by simp; omega, by rw [rd_cons]; exact h⟩, fun ⟨k, hk, h⟩ => ?_⟩⟩
      cases k with
      | zero =>
        have : rd (x :: xs) ((0 : Nat) : Int) = x := rfl
        rw [this, hp] at h; cases h
      | succ k => exact ⟨k, by simpa using hk, by rw [← rd_cons x]; exact h⟩
theorem within_eq (a b c : Int) : impl_within.f a b c = some (decide (b ≤ a) && decide (a ≤ c)) := by
  unfold impl_within.f
  by_cases h : a ≥ b
  · rw [if_pos h, decide_eq_true h, Bool.true_and]
  · rw [if_neg h, decide_eq_false (by omega), Bool.false_and]
theorem l1In_eq (a b c : Int) : spec_l1In.f a b c = some (decide (b ≤ a) && decide (a ≤ c)) := by
  unfold spec_l1In.f
  by_cases h : a ≥ b
  · rw [if_pos h, decide_eq_true h, Bool.true_and]
  · rw [if_neg h, decide_eq_false (by omega), Bool.false_and]
theorem sharesOk_eq (n : Int) (ws cs : List Int) : impl_sharesOk.f n ws cs = some (shOk n ws cs) := by
  unfold impl_sharesOk.f
  rw [within_eq]
  simp only [Option.bind_some]
  unfold shOk
  by_cases h1 : (decide (0 ≤ n) && decide (n ≤ 10000)) = true
  · rw [if_pos h1, h1]
    by_cases h2 : (ws.length : Int) ≤ 64
    · rw [if_pos h2, decide_eq_true (by omega : ws.length ≤ 64)]
      by_cases h3 : (cs.length : Int) = (ws.length : Int)
      · rw [if_pos h3, decide_eq_true (by omega : cs.length = ws.length)]
        unfold impl_sharesOk_h32.f impl_sharesOk_h33.f
        obtain ⟨i, hi, hh⟩ := idxO_all (fun x => !(decide (0 ≤ x) && decide (x ≤ 1000))) (fun x => impl_sharesOk_1.f x) (fun x => by unfold impl_sharesOk_1.f; rw [within_eq]; rfl) ws 0
        obtain ⟨j, hj, hh2⟩ := idxO_all (fun x => !(decide (0 ≤ x) && decide (x ≤ 10000))) (fun x => impl_sharesOk_2.f x) (fun x => by unfold impl_sharesOk_2.f; rw [within_eq]; rfl) cs 0
        rw [hi, hj]
        simp only [Option.bind_some, decide_eq_true_eq]
        by_cases c1 : 0 ≤ i
        · rw [if_pos c1]
          obtain ⟨k, hk, hp⟩ := hh.1 c1
          have : allN ws.length (fun i => decide (0 ≤ rd ws (i : Int)) && decide (rd ws (i : Int) ≤ 1000)) = false := by
            rw [← Bool.not_eq_true, allN_true]
            intro h
            rw [h k hk] at hp
            cases hp
          rw [this]; rfl
        · rw [if_neg c1]
          have e1 : allN ws.length (fun i => decide (0 ≤ rd ws (i : Int)) && decide (rd ws (i : Int) ≤ 1000)) = true := allN_true.2 (fun k hk => by
            cases hc : (decide (0 ≤ rd ws (k : Int)) && decide (rd ws (k : Int) ≤ 1000)) with
            | true => rfl
            | false => exact absurd (hh.2 ⟨k, hk, by rw [hc]; rfl⟩) c1)
          rw [e1]
          by_cases c2 : 0 ≤ j
          · obtain ⟨k, hk, hp⟩ := hh2.1 c2
            have : allN ws.length (fun i => decide (0 ≤ rd cs (i : Int)) && decide (rd cs (i : Int) ≤ 10000)) = false := by
              rw [← Bool.not_eq_true, allN_true]
              intro h
              rw [h k (by omega)] at hp
              cases hp
            rw [this, decide_eq_true c2]; rfl
          · have e2 : allN ws.length (fun i => decide (0 ≤ rd cs (i : Int)) && decide (rd cs (i : Int) ≤ 10000)) = true := allN_true.2 (fun k hk => by
              cases hc : (decide (0 ≤ rd cs (k : Int)) && decide (rd cs (k : Int) ≤ 10000)) with
              | true => rfl
              | false => exact absurd (hh2.2 ⟨k, by omega, by rw [hc]; rfl⟩) c2)
            rw [e2, decide_eq_false c2]; rfl
      · rw [if_neg h3, decide_eq_false (by omega : ¬ cs.length = ws.length)]; simp
    · rw [if_neg h2, decide_eq_false (by omega : ¬ ws.length ≤ 64)]; simp
  · rw [if_neg h1]
    rw [Bool.not_eq_true] at h1
    rw [h1]; simp
theorem l6Right_ev (n : Int) (ws cs : List Int) : Ev (fun k => spec_l6Right.f k n ws cs) (shOk n ws cs) := by
  unfold spec_l6Right.f
  simp only [l1In_eq, Option.bind_some]
  have no : ∀ {g : Nat → Option Bool}, shOk n ws cs = false → Ev (fun k => spec_l6Right.j0 k ws cs true) (shOk n ws cs) := fun h => by
    rw [h]; exact Ev.step (fun k => by rw [spec_l6Right.j0]) (ev_if_pos rfl (ev_some rfl))
  by_cases h1 : (decide (0 ≤ n) && decide (n ≤ 10000)) = true
  · refine ev_if_pos h1 ?_
    have h1' : 0 ≤ n ∧ n ≤ 10000 := by simpa using h1
    by_cases h2 : (ws.length : Int) > 64
    · refine ev_if_pos h2 (no (g := fun _ => none) ?_)
      rw [← Bool.not_eq_true, shOk_iff]
      intro h; have := h.l1; omega
    · refine ev_if_neg h2 ?_
      by_cases h3 : cs.length = ws.length
      · rw [show ((ws.length : Int) != (cs.length : Int)) = false by rw [h3]; simp]
        refine Ev.step (fun k => by rw [spec_l6Right.j0]) (ev_if_neg (by simp) ?_)
        have e : shOk n ws cs = (allN ws.length (fun i => (decide (0 ≤ rd ws (i : Int)) && decide (rd ws (i : Int) ≤ 1000)) && (decide (0 ≤ rd cs (i : Int)) && decide (rd cs (i : Int) ≤ 10000))) && true) := by
          rw [Bool.and_true, Bool.eq_iff_iff, shOk_iff, allN_true]
          exact ⟨fun h i hi => by have := h.w i hi; have := h.c i hi; simp; omega, fun h => ⟨h1'.1, h1'.2, by omega, h3, fun i hi => by have := h i hi; simp at this; omega, fun i hi => by have := h i hi; simp at this; omega⟩⟩
        rw [e]
        refine loop_all (g := fun k i => spec_l6Right.l0 k ws cs i) ws.length _ true (fun i hi hok r hr => ?_) (fun i hi hok => ?_) ?_
        · rw [Bool.and_eq_true] at hok
          refine Ev.step (fun k => by rw [spec_l6Right.l0]) (ev_if_pos (by omega) (ev_if_pos (by omega) ?_))
          simp only [l1In_eq, Option.bind_some]
          refine ev_if_pos hok.1 (ev_if_pos (by omega) (ev_if_pos hok.2 ?_))
          simp only [wsucc hi (by omega)]
          exact hr
        · refine Ev.step (fun k => by rw [spec_l6Right.l0]) (ev_if_pos (by omega) (ev_if_pos (by omega) ?_))
          simp only [l1In_eq, Option.bind_some]
          by_cases hc : (decide (0 ≤ rd ws (i : Int)) && decide (rd ws (i : Int) ≤ 1000)) = true
          · rw [hc, Bool.true_and] at hok
            exact ev_if_pos hc (ev_if_pos (by omega) (ev_if_neg (by rw [hok]; simp) (ev_some rfl)))
          · exact ev_if_neg hc (ev_some rfl)
        · exact Ev.step (fun k => by rw [spec_l6Right.l0]) (ev_if_neg (by omega) (ev_some rfl))
      · rw [show ((ws.length : Int) != (cs.length : Int)) = true by simp; omega]
        refine no (g := fun _ => none) ?_
        rw [← Bool.not_eq_true, shOk_iff]
        intro h; exact h3 h.l2
  · refine ev_if_neg h1 (no (g := fun _ => none) ?_)
    rw [← Bool.not_eq_true, shOk_iff]
    intro h; have := h.n0; have := h.n1; simp at h1; omega
/-! ### the total -/
def capF (ws cs : List Int) (i : Nat) : Int := if 0 < rd ws (i : Int) then rd cs (i : Int) else 0
def totI (n : Int) (ws cs : List Int) : Int := if shOk n ws cs = true then (if n < sumR (capF ws cs) ws.length then n else sumR (capF ws cs) ws.length) else -1
theorem capF_bound {n : Int} {ws cs : List Int} (h : ShOk n ws cs) : ∀ k, k ≤ ws.length → 0 ≤ sumR (capF ws cs) k ∧ sumR (capF ws cs) k ≤ 10000 * k
  | 0, _ => by simp [sumR]
  | k + 1, hk => by
    have ih := capF_bound h k (by omega)
    have hc := h.c k (by omega)
    have hf : 0 ≤ capF ws cs k ∧ capF ws cs k ≤ 10000 := by unfold capF; split <;> omega
    rw [sumR]
    omega
theorem specTotal_ev (n : Int) (ws cs : List Int) : Ev (fun k => spec_Total.f k n ws cs) (totI n ws cs) := by
  unfold spec_Total.f
  refine Ev.bind (l6Right_ev n ws cs) ?_
  unfold totI
  by_cases h : shOk n ws cs = true
  · refine ev_if_pos h ?_
    rw [if_pos h]
    have H := shOk_iff.1 h
    have key : ∀ d i, i + d = ws.length → Ev (fun k => spec_Total.l0 k n ws cs (sumR (capF ws cs) i) (i : Int)) (if n < sumR (capF ws cs) ws.length then n else sumR (capF ws cs) ws.length) := by
      intro d
      induction d with
      | zero =>
        intro i hi
        obtain rfl : i = ws.length := by omega
        refine Ev.step (fun k => by rw [spec_Total.l0]) (ev_if_neg (by omega) ?_)
        by_cases c : n < sumR (capF ws cs) ws.length
        · exact ev_rw (ev_if_pos c (ev_some rfl)) (if_pos c).symm
        · exact ev_rw (ev_if_neg c (ev_some rfl)) (if_neg c).symm
      | succ d ih =>
        intro i hi
        have hb := capF_bound H i (by omega)
        have hc := H.c i (by omega)
        have hl := H.l1
        have ih := ih (i + 1) (by omega)
        rw [sumR] at ih
        refine Ev.step (fun k => by rw [spec_Total.l0]) (ev_if_pos (by omega) (ev_if_pos (by omega) ?_))
        simp only [wsucc (show i < ws.length by omega) (by omega)]
        by_cases c : rd ws (i : Int) > 0
        · have e : capF ws cs i = rd cs (i : Int) := if_pos c
          rw [e] at ih
          refine ev_if_pos c (ev_if_pos (by have := H.l2; omega) ?_)
          simp only [w64 (x := sumR (capF ws cs) i + rd cs (i : Int)) (by omega) (by omega)]
          exact ih
        · have e : capF ws cs i = 0 := if_neg c
          rw [e, Int.add_zero] at ih
          exact ev_if_neg c ih
    exact key ws.length 0 (by omega)
  · refine ev_if_neg h ?_
    rw [if_neg h]
    exact ev_some rfl
theorem implTotal_ev (n : Int) (ws cs : List Int) : Ev (fun k => impl_Total.f k n ws cs) (totI n ws cs) := by
  unfold impl_Total.f
  simp only [sharesOk_eq, Option.bind_some]
  unfold totI
  by_cases h : shOk n ws cs = true
  · refine ev_if_pos h ?_
    rw [if_pos h]
    have H := shOk_iff.1 h
    have key : ∀ d i, i + d = ws.length → Ev (fun k => impl_Total.l0 k n cs (sumR (capF ws cs) i) ws (ws.length : Int) (i : Int)) (if n < sumR (capF ws cs) ws.length then n else sumR (capF ws cs) ws.length) := by
      intro d
      induction d with
      | zero =>
        intro i hi
        obtain rfl : i = ws.length := by omega
        refine Ev.step (fun k => by rw [impl_Total.l0]) (ev_if_neg (by omega) (ev_some ?_))
        unfold mn
        split <;> split <;> omega
      | succ d ih =>
        intro i hi
        have hb := capF_bound H i (by omega)
        have hc := H.c i (by omega)
        have hl := H.l1
        have ih := ih (i + 1) (by omega)
        rw [sumR] at ih
        refine Ev.step (fun k => by rw [impl_Total.l0]) (ev_if_pos (by omega) (ev_if_pos (by omega) (ev_if_pos (by omega) ?_)))
        simp only [wsucc (show i < ws.length by omega) (by omega)]
        by_cases c : rd ws (i : Int) > 0
        · have e : capF ws cs i = rd cs (i : Int) := if_pos c
          rw [e] at ih
          refine ev_if_pos c (ev_if_pos (by have := H.l2; omega) ?_)
          simp only [w64 (x := sumR (capF ws cs) i + rd cs (i : Int)) (by omega) (by omega)]
          exact ih
        · have e : capF ws cs i = 0 := if_neg c
          rw [e, Int.add_zero] at ih
          exact ev_if_neg c ih
    exact key ws.length 0 (by omega)
  · refine ev_if_neg h ?_
    rw [if_neg h]
    exact ev_some rfl
end Go.Proofs.Yteilcchcekmooaa.G

/- PFairS -/
/-
  FairOk of the reference, walked.
-/
namespace Go.Proofs.Yteilcchcekmooaa.G
open Go.RowKit Go.Proofs.YteilcchcekmooaaW.PrintWords Go.Proofs.YteilcchcekmooaaW.PrintLast Go.Proofs.YteilcchcekmooaaW.PrintMore
set_option linter.unusedVariables false
set_option linter.unusedSimpArgs false

def ix (l : List Int) (i : Nat) : Int := rd l (i : Int)
def inB (x lo hi : Int) : Bool := decide (lo ≤ x) && decide (x ≤ hi)
theorem inB_iff {x lo hi : Int} : inB x lo hi = true ↔ lo ≤ x ∧ x ≤ hi := by unfold inB; simp
theorem fIn_any (x lo hi : Int) (w : World) : Calls Try.prog 30 #[.int .i64 x, .int .i64 lo, .int .i64 hi] w fun e w' => e = .returned (.bool (inB x lo hi)) ∧ ∃ q, w' = w.drewN q :=
  (spec_l1In.calls x lo hi (inB x lo hi) w (l1In_eq x lo hi)).mono fun _ _ h => ⟨h.1, h.2.out⟩
theorem fBelowN {w W : World} (h : Below w.heap.size w W) (n : Nat) : Below w.heap.size w (W.drewN n) := pw_below_drewN h n
theorem rd_Ix2 {w w' : World} {xs : List Int} {A : Option Addr} {m : Nat} (h : Kd.C (Kd.int .i64) w A xs.length xs) (hb : Below w.heap.size w w') (i : Nat) (hi : i < xs.length) : ∃ ad, A = some ad ∧ w'.cell? (ad.add i) = some (.int .i64 (ix xs i)) := by
  obtain ⟨ad, e, hc⟩ := Kd.at_int h (i : Int) (by omega) (by omega)
  rw [Int.toNat_natCast] at hc
  exact ⟨ad, e, (hb.cell (World.block_lt_of_cell? _ _ hc)).trans hc⟩
def okI (ws cs sh : List Int) (i : Nat) : Prop := (0 ≤ ix sh i ∧ ix sh i ≤ ix cs i) ∧ ¬ (ix ws i = 0 ∧ 0 < ix sh i)
def badI (ws cs sh : List Int) (i k : Nat) : Prop := k ≠ i ∧ 0 < ix ws i ∧ 0 < ix ws k ∧ ix sh i < ix cs i ∧ (0 ≤ ix sh k ∧ ix sh k ≤ ix cs k) ∧ (ix sh i + 1) * ix ws k < (ix sh k - 1) * ix ws i
def sumTo (l : List Int) : Nat → Int
  | 0 => 0
  | k + 1 => sumTo l k + ix l k
def FairP (n : Int) (ws cs sh : List Int) : Prop := shOk n ws cs = true ∧ sh.length = ws.length ∧ (∀ i, i < ws.length → okI ws cs sh i) ∧ (∀ i, i < ws.length → ∀ k, k < ws.length → ¬ badI ws cs sh i k) ∧ sumTo sh ws.length = totI n ws cs
theorem sumTo_bound {ws cs sh : List Int} (hc : ∀ i, i < ws.length → 0 ≤ ix cs i ∧ ix cs i ≤ 10000) : ∀ k, k ≤ ws.length → (∀ i, i < k → okI ws cs sh i) → 0 ≤ sumTo sh k ∧ sumTo sh k ≤ 10000 * k
  | 0, _, _ => by simp [sumTo]
  | k + 1, hk, h => by
    obtain ⟨i1, i2⟩ := sumTo_bound hc k (by omega) (fun i hi => h i (by omega))
    have h1 := (h k (by omega)).1
    have h2 := hc k (by omega)
    rw [sumTo]; omega
theorem mul_small {a b : Int} (ha : 0 ≤ a) (ha' : a ≤ 20000) (hb : 0 ≤ b) (hb' : b ≤ 1000) : 0 ≤ a * b ∧ a * b ≤ 20000000 :=
  ⟨Int.mul_nonneg ha hb, by have := Int.mul_le_mul ha' hb' hb (by omega); omega⟩
theorem mul_small' {a b : Int} (ha : -1 ≤ a) (ha' : a ≤ 20000) (hb : 0 ≤ b) (hb' : b ≤ 1000) : -1000 ≤ a * b ∧ a * b ≤ 20000000 := by
  by_cases h : 0 ≤ a
  · have := mul_small h ha' hb hb'; omega
  · obtain rfl : a = -1 := by omega
    omega
set_option maxHeartbeats 4000000 in
set_option maxRecDepth 8000 in
theorem specFairOk_any (n : Int) (ws cs sh : List Int) (A A' A'' : Option Addr) (c c' c'' : Nat) (w : World) (hr : Kd.C (Kd.int .i64) w A ws.length ws) (hn : ws.length ≤ c) (hq : Kd.C (Kd.int .i64) w A' cs.length cs) (hn' : cs.length ≤ c') (hp : Kd.C (Kd.int .i64) w A'' sh.length sh) (hn'' : sh.length ≤ c'') :
    Calls Try.prog 18 #[.int .i64 n, .slice A ws.length c, .slice A' cs.length c', .slice A'' sh.length c''] w fun e w' => (∃ b, e = .returned (.bool b) ∧ (b = true ↔ FairP n ws cs sh)) ∧ Below w.heap.size w w' := by
  obtain ⟨KR, kR⟩ := l6Right_ev n ws cs
  have ER := Lib.hid (kR KR (Nat.le_refl _))
  obtain ⟨KT, kT⟩ := specTotal_ev n ws cs
  have ET := Lib.hid (kT KT (Nat.le_refl _))
  clear kR kT
  by_cases hs : shOk n ws cs = true
  · by_cases hlen : sh.length = ws.length
    · obtain ⟨n0, n1, l1, l2, hww, hcc⟩ := shOk_iff.1 hs
      have hC : ∀ i, i < ws.length → 0 ≤ ix cs i ∧ ix cs i ≤ 10000 := hcc
      have hW : ∀ i, i < ws.length → 0 ≤ ix ws i ∧ ix ws i ≤ 1000 := hww
      have HL := Lib.hid l2
      have HLs := Lib.hid hlen
      have HC := Lib.hid hC
      have HW := Lib.hid hW
      have HR := Lib.hid hr
      have HQ := Lib.hid hq
      have HP := Lib.hid hp
      have he : ((sh.length : Int) != (ws.length : Int)) = false := by rw [hlen]; simp
      have hb0 : ((sh.length : Int) == (ws.length : Int)) = true := by rw [hlen]; simp
      have HV : Hid (FairP n ws cs sh ↔ (∀ i, i < ws.length → okI ws cs sh i) ∧ (∀ i, i < ws.length → ∀ k, k < ws.length → ¬ badI ws cs sh i k) ∧ sumTo sh ws.length = totI n ws cs) := ⟨fun h => h.2.2, fun h => ⟨hs, hlen, h⟩⟩
      clear hr hq hp l2 hcc hww hC hW hlen
      go_enter Try.func18, Try.ntmps18
      go_wp2_with fail
      refine (spec_l6Right.calls KR n A c ws A' c' cs _ _ HR.out hn HQ.out hn' ER.out).mono ?_
      rintro e w' ⟨rfl, hd0⟩
      have B0 := Lib.hid (hd0.below)
      clear hd0
      rw [hs]
      go_wp2
      go_loopw [9, 10, 11] (fun s i _ wr => ∃ k : Nat, k ≤ ws.length ∧ i = .int .i64 k ∧ s = .int .i64 (sumTo sh k) ∧ Hid ((∀ j, j < k → okI ws cs sh j) ∧ ∀ j, j < k → ∀ m, m < ws.length → ¬ badI ws cs sh j m) ∧ Hid (Below w.heap.size w wr)) (fun _ i _ _ => ws.length - (intOf i).toNat)
      case atStart => exact ⟨0, by omega, rfl, rfl, by unfold Hid; exact ⟨by omega, by omega⟩, B0⟩
      case round =>
        obtain ⟨k, hk, rfl, rfl, HE, HB⟩ := hrel
        obtain ⟨b0, b1⟩ := sumTo_bound HC.out k hk HE.out.1
        by_cases hlt : k < ws.length
        · have hlt' : k < cs.length := by have := HL.out; omega
          have hlt'' : k < sh.length := by have := HLs.out; omega
          obtain ⟨ab, rfl, c0⟩ := rd_Ix2 (m := 0) HR.out HB.out k hlt
          obtain ⟨ab', rfl, c0'⟩ := rd_Ix2 (m := 0) HQ.out HB.out k hlt'
          obtain ⟨ab'', rfl, c0''⟩ := rd_Ix2 (m := 0) HP.out HB.out k hlt''
          obtain ⟨w0, w1⟩ := HW.out k hlt
          obtain ⟨d0, d1⟩ := HC.out k hlt
          by_cases hi : inB (ix sh k) 0 (ix cs k) = true
          · have HI := inB_iff.1 hi
            have alt : ((ix ws k == 0) = true ∧ 0 < ix sh k) ∨ (((ix ws k == 0) = false ∨ (ix ws k == 0) = true ∧ decide (0 < ix sh k) = false)) := by
              by_cases h1 : ix ws k = 0
              · by_cases h2 : 0 < ix sh k
                · exact .inl ⟨by simpa using h1, h2⟩
                · exact .inr (.inr ⟨by simpa using h1, by simpa using h2⟩)
              · exact .inr (.inl (by simpa using h1))
            rcases alt with ⟨hz0, hz1⟩ | alt
            · have HN : Hid (¬ okI ws cs sh k) := fun h => h.2 ⟨by simpa using hz0, hz1⟩
              go_wp2_with fail
              go_quiet ((go_at_call 30; exact Calls.quiet_of (fIn_any _ _ _ _)))
              go_wp2
              go_ret
              exact ⟨⟨false, rfl, by rw [HV.out]; exact ⟨fun h => (by cases h), fun h => absurd (h.1 k hlt) HN.out⟩⟩, fBelowN HB.out _⟩
            · have HN : Hid (okI ws cs sh k) := ⟨HI, fun h => by
                rcases alt with h' | ⟨_, h'⟩
                · simp [h.1] at h'
                · simp at h'; omega⟩
              have e1 : sumTo sh (k + 1) = sumTo sh k + ix sh k := rfl
              have E1 := Lib.hid e1
              clear e1
              rcases alt with hz2 | ⟨hz0, hz2⟩
              all_goals
                go_wp2_with fail
                go_quiet ((go_at_call 30; exact Calls.quiet_of (fIn_any _ _ _ _)))
                go_wp2
                clear hi
                try clear hz0
                try clear hz2
                go_loopw [11] (fun m wr2 => ∃ j : Nat, j ≤ ws.length ∧ m = .int .i64 j ∧ Hid (∀ j', j' < j → ¬ badI ws cs sh k j') ∧ Hid (Below w.heap.size w wr2)) (fun m _ => ws.length - (intOf m).toNat)
                case atStart => exact ⟨0, by omega, rfl, by unfold Hid; omega, fBelowN HB.out _⟩
                case round =>
                  obtain ⟨j, hj, rfl, HJ, HB2⟩ := hrel
                  by_cases hjlt : j < ws.length
                  · have hjlt' : j < cs.length := by have := HL.out; omega
                    have hjlt'' : j < sh.length := by have := HLs.out; omega
                    clear c0 c0' c0''
                    obtain ⟨_, hh1, c0⟩ := rd_Ix2 (m := 0) HR.out HB2.out k hlt
                    injection hh1 with hh1; subst hh1
                    obtain ⟨_, hh1, c0'⟩ := rd_Ix2 (m := 0) HQ.out HB2.out k hlt'
                    injection hh1 with hh1; subst hh1
                    obtain ⟨_, hh1, c0''⟩ := rd_Ix2 (m := 0) HP.out HB2.out k hlt''
                    injection hh1 with hh1; subst hh1
                    obtain ⟨_, hh1, g0⟩ := rd_Ix2 (m := 0) HR.out HB2.out j hjlt
                    injection hh1 with hh1; subst hh1
                    obtain ⟨_, hh1, g0'⟩ := rd_Ix2 (m := 0) HQ.out HB2.out j hjlt'
                    injection hh1 with hh1; subst hh1
                    obtain ⟨_, hh1, g0''⟩ := rd_Ix2 (m := 0) HP.out HB2.out j hjlt''
                    injection hh1 with hh1; subst hh1
                    obtain ⟨w0', w1'⟩ := HW.out j hjlt
                    obtain ⟨d0', d1'⟩ := HC.out j hjlt
                    have cases6 : (Hid (¬ badI ws cs sh k j) ∧ (((j : Int) != (k : Int)) = false ∨ ((j : Int) != (k : Int)) = true ∧ (decide (0 < ix ws k) = false ∨ decide (0 < ix ws k) = true ∧ (decide (0 < ix ws j) = false ∨ decide (0 < ix ws j) = true ∧ (decide (ix sh k < ix cs k) = false ∨ decide (ix sh k < ix cs k) = true ∧ (inB (ix sh j) 0 (ix cs j) = false ∨ inB (ix sh j) 0 (ix cs j) = true ∧ Hid (0 ≤ ix sh j ∧ ix sh j ≤ ix cs j) ∧ decide ((ix sh k + 1) * ix ws j < (ix sh j - 1) * ix ws k) = false)))))) ∨
                        Hid (badI ws cs sh k j) ∧ ((j : Int) != (k : Int)) = true ∧ 0 < ix ws k ∧ 0 < ix ws j ∧ ix sh k < ix cs k ∧ inB (ix sh j) 0 (ix cs j) = true ∧ Hid (0 ≤ ix sh j ∧ ix sh j ≤ ix cs j) ∧ decide ((ix sh k + 1) * ix ws j < (ix sh j - 1) * ix ws k) = true := by
                      unfold Hid badI
                      by_cases q1 : j = k
                      · exact .inl ⟨fun h => h.1 q1, .inl (by subst q1; simp)⟩
                      have q1' : ((j : Int) != (k : Int)) = true := by simp; omega
                      by_cases q2n : ¬ (0 < ix ws k)
                      · exact .inl ⟨fun h => q2n h.2.1, .inr ⟨q1', .inl (by simpa using q2n)⟩⟩
                      have q2 : 0 < ix ws k := Decidable.not_not.1 q2n
                      by_cases q3n : ¬ (0 < ix ws j)
                      · exact .inl ⟨fun h => q3n h.2.2.1, .inr ⟨q1', .inr ⟨by simpa using q2, .inl (by simpa using q3n)⟩⟩⟩
                      have q3 : 0 < ix ws j := Decidable.not_not.1 q3n
                      by_cases q4n : ¬ (ix sh k < ix cs k)
                      · exact .inl ⟨fun h => q4n h.2.2.2.1, .inr ⟨q1', .inr ⟨by simpa using q2, .inr ⟨by simpa using q3, .inl (by simpa using q4n)⟩⟩⟩⟩
                      have q4 : ix sh k < ix cs k := Decidable.not_not.1 q4n
                      by_cases q5n : ¬ (inB (ix sh j) 0 (ix cs j) = true)
                      · exact .inl ⟨fun h => q5n (inB_iff.2 h.2.2.2.2.1), .inr ⟨q1', .inr ⟨by simpa using q2, .inr ⟨by simpa using q3, .inr ⟨by simpa using q4, .inl (by simpa using q5n)⟩⟩⟩⟩⟩
                      have q5 : inB (ix sh j) 0 (ix cs j) = true := Decidable.not_not.1 q5n
                      have q5' := inB_iff.1 q5
                      by_cases q6 : (ix sh k + 1) * ix ws j < (ix sh j - 1) * ix ws k
                      · exact .inr ⟨⟨q1, q2, q3, q4, q5', q6⟩, q1', q2, q3, q4, q5, q5', by simpa using q6⟩
                      · exact .inl ⟨fun h => q6 h.2.2.2.2.2, .inr ⟨q1', .inr ⟨by simpa using q2, .inr ⟨by simpa using q3, .inr ⟨by simpa using q4, .inr ⟨q5, q5', by simpa using q6⟩⟩⟩⟩⟩⟩
                    rcases cases6 with ⟨HBad, alt⟩ | ⟨HBad, q1, q2, q3, q4, q5, HQ5, q6⟩
                    · rcases alt with q1 | ⟨q1, q2 | ⟨q2, q3 | ⟨q3, q4 | ⟨q4, q5 | ⟨q5, HQ5, q6⟩⟩⟩⟩⟩
                      case' inr.inr.inr.inr.inr =>
                        obtain ⟨x0, x1⟩ := HQ5.out
                        have m1 := mul_small (a := ix sh k + 1) (b := ix ws j) (by omega) (by omega) (by omega) (by omega)
                        have m2 := mul_small' (a := ix sh j - 1) (b := ix ws k) (by omega) (by omega) (by omega) (by omega)
                        have m3 : IntKind.i64.wrap ((ix sh k + 1) * ix ws j) = (ix sh k + 1) * ix ws j := IntWalk.i64_in _ (by omega)
                        have m4 : IntKind.i64.wrap ((ix sh j - 1) * ix ws k) = (ix sh j - 1) * ix ws k := IntWalk.i64_in _ (by omega)
                      all_goals
                        go_wp2_with fail
                        go_quiet ((go_at_call 30; exact Calls.quiet_of (fIn_any _ _ _ _)))
                        go_wp2
                        go_roundw
                        case rel => 
                          refine ⟨j + 1, by omega, by go_num, ?_, fBelowN HB2.out _⟩
                          unfold Hid
                          intro i hi
                          by_cases e : i = j
                          · subst e; exact HBad.out
                          · exact HJ.out i (by omega)
                        case measure => simp [intOf]; omega
                    · obtain ⟨x0, x1⟩ := HQ5.out
                      have m1 := mul_small (a := ix sh k + 1) (b := ix ws j) (by omega) (by omega) (by omega) (by omega)
                      have m2 := mul_small' (a := ix sh j - 1) (b := ix ws k) (by omega) (by omega) (by omega) (by omega)
                      have m3 : IntKind.i64.wrap ((ix sh k + 1) * ix ws j) = (ix sh k + 1) * ix ws j := IntWalk.i64_in _ (by omega)
                      have m4 : IntKind.i64.wrap ((ix sh j - 1) * ix ws k) = (ix sh j - 1) * ix ws k := IntWalk.i64_in _ (by omega)
                      go_wp2_with fail
                      go_quiet ((go_at_call 30; exact Calls.quiet_of (fIn_any _ _ _ _)))
                      go_wp2
                      go_ret
                      exact ⟨⟨false, rfl, by rw [HV.out]; exact ⟨fun h => (by cases h), fun h => absurd HBad.out (h.2.1 k hlt j hjlt)⟩⟩, fBelowN HB2.out _⟩
                  · obtain rfl : j = ws.length := by omega
                    have hnl : sh.length ≤ ws.length := by rw [HLs.out]; exact Nat.le_refl _
                    clear c0 c0' c0''
                    go_wp2
                    go_roundw
                    case rel => 
                      refine ⟨k + 1, by omega, by go_num, by rw [E1.out], ?_, HB2⟩
                      unfold Hid
                      refine ⟨fun j h => ?_, fun j h => ?_⟩
                      · by_cases e : j = k
                        · subst e; exact HN.out
                        · exact HE.out.1 j (by omega)
                      · by_cases e : j = k
                        · subst e; exact HJ.out
                        · exact HE.out.2 j (by omega)
                    case measure => simp [intOf]; omega
          · have hi' : inB (ix sh k) 0 (ix cs k) = false := by simpa using hi
            have HN : Hid (¬ okI ws cs sh k) := fun h => hi (inB_iff.2 h.1)
            clear hi
            go_wp2_with fail
            go_quiet ((go_at_call 30; exact Calls.quiet_of (fIn_any _ _ _ _)))
            go_wp2
            go_ret
            exact ⟨⟨false, rfl, by rw [HV.out]; exact ⟨fun h => (by cases h), fun h => absurd (h.1 k hlt) HN.out⟩⟩, fBelowN HB.out _⟩
        · obtain rfl : k = ws.length := by omega
          have hnl : sh.length ≤ ws.length := by rw [HLs.out]; exact Nat.le_refl _
          have HX := Lib.hid (spec_Total.calls KT n A c ws A' c' cs _ wr (Kd.C_below HR.out HB.out) hn (Kd.C_below HQ.out HB.out) hn' ET.out)
          by_cases ht : sumTo sh ws.length = totI n ws cs
          · have HT := Lib.hid ht
            have ht' : (sumTo sh ws.length == totI n ws cs) = true := by simpa using ht
            clear ht
            go_wp2_with fail
            refine HX.out.mono ?_
            rintro e w' ⟨rfl, hd0⟩
            go_wp2
            go_ret
            exact ⟨⟨true, rfl, by rw [HV.out]; exact ⟨fun _ => ⟨HE.out.1, HE.out.2, HT.out⟩, fun _ => rfl⟩⟩, below_step HB.out hd0.below⟩
          · have HT := Lib.hid ht
            have ht' : (sumTo sh ws.length == totI n ws cs) = false := by simpa using ht
            clear ht
            go_wp2_with fail
            refine HX.out.mono ?_
            rintro e w' ⟨rfl, hd0⟩
            go_wp2
            go_ret
            exact ⟨⟨false, rfl, by rw [HV.out]; exact ⟨fun h => (by cases h), fun h => absurd h.2.2 HT.out⟩⟩, below_step HB.out hd0.below⟩
    · have hb0 : ((sh.length : Int) != (ws.length : Int)) = true := by simp; omega
      have HV : Hid (¬ FairP n ws cs sh) := fun h => hlen h.2.1
      clear hlen
      go_enter Try.func18, Try.ntmps18
      go_wp2_with fail
      refine (spec_l6Right.calls KR n A c ws A' c' cs _ _ hr hn hq hn' ER.out).mono ?_
      rintro e w' ⟨rfl, hd0⟩
      rw [hs]
      go_wp2
      go_ret
      exact ⟨⟨false, rfl, fun h => (by cases h), fun h => absurd h HV.out⟩, hd0.below⟩
  · have hs' : shOk n ws cs = false := by simpa using hs
    have HV : Hid (¬ FairP n ws cs sh) := fun h => hs h.1
    clear hs
    go_enter Try.func18, Try.ntmps18
    go_wp2_with fail
    refine (spec_l6Right.calls KR n A c ws A' c' cs _ _ hr hn hq hn' ER.out).mono ?_
    rintro e w' ⟨rfl, hd0⟩
    rw [hs']
    go_wp2
    go_ret
    exact ⟨⟨false, rfl, fun h => (by cases h), fun h => absurd h HV.out⟩, hd0.below⟩
end Go.Proofs.Yteilcchcekmooaa.G

/- PFairB -/
/-
  What is fair, as a computable answer.
-/
namespace Go.Proofs.Yteilcchcekmooaa.G
open Go.RowKit Go.Sort Go.Proofs.YteilcchcekmooaaW.PrintWords Go.Proofs.YteilcchcekmooaaW.PrintLast Go.Proofs.YteilcchcekmooaaW.PrintMore
set_option linter.unusedVariables false
set_option linter.unusedSimpArgs false
def okB (ws cs sh : List Int) (i : Nat) : Bool := (decide (0 ≤ ix sh i) && decide (ix sh i ≤ ix cs i)) && !(decide (ix ws i = 0) && decide (0 < ix sh i))
def badB (ws cs sh : List Int) (i k : Nat) : Bool := decide (k ≠ i) && (decide (0 < ix ws i) && (decide (0 < ix ws k) && (decide (ix sh i < ix cs i) && ((decide (0 ≤ ix sh k) && decide (ix sh k ≤ ix cs k)) && decide ((ix sh i + 1) * ix ws k < (ix sh k - 1) * ix ws i)))))
def fairR (n : Int) (ws cs sh : List Int) : Bool := allN ws.length (okB ws cs sh) && (decide (sumTo sh ws.length = totI n ws cs) && allN ws.length (fun i => allN ws.length (fun k => !badB ws cs sh i k)))
def fairB (n : Int) (ws cs sh : List Int) : Bool := shOk n ws cs && (decide (sh.length = ws.length) && fairR n ws cs sh)
theorem okB_iff {ws cs sh : List Int} {i : Nat} : okB ws cs sh i = true ↔ okI ws cs sh i := by
  unfold okB okI
  simp only [Bool.and_eq_true, decide_eq_true_eq, Bool.not_eq_true', Bool.and_eq_false_iff, decide_eq_false_iff_not]
  omega
theorem badB_iff {ws cs sh : List Int} {i k : Nat} : badB ws cs sh i k = true ↔ badI ws cs sh i k := by
  unfold badB badI
  simp only [Bool.and_eq_true, decide_eq_true_eq]
theorem fairB_iff {n : Int} {ws cs sh : List Int} : fairB n ws cs sh = true ↔ FairP n ws cs sh := by
  unfold fairB fairR FairP
  simp only [Bool.and_eq_true, decide_eq_true_eq, allN_true, okB_iff, Bool.not_eq_true']
  constructor
  · rintro ⟨h1, h2, h3, h4, h5⟩
    refine ⟨h1, h2, h3, fun i hi k hk hb => ?_, h4⟩
    have := h5 i hi k hk
    rw [badB_iff.2 hb] at this
    cases this
  · rintro ⟨h1, h2, h3, h4, h5⟩
    refine ⟨h1, h2, h3, h5, fun i hi k hk => ?_⟩
    cases hb : badB ws cs sh i k with
    | false => rfl
    | true => exact absurd (badB_iff.1 hb) (h4 i hi k hk)
end Go.Proofs.Yteilcchcekmooaa.G
