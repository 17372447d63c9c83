import Derived.Test.YteilcchcekmooaaMFnDivided1
import Derived.Test.YteilcchcekmooaaMFnDivided2
/- G22 -/
-- Laid by wip/g/gprint.py out of the translation, by the kit's print program. Lean checks it.
namespace Go.Proofs.Yteilcchcekmooaa.G
open Go.RowKit Go.Proofs.YteilcchcekmooaaW.PrintWords Go.Proofs.YteilcchcekmooaaW.PrintLast Go.Proofs.YteilcchcekmooaaW.PrintMore
attribute [local go_sem] max2_int min2_int max_two min_two max_three min_three max_four min_four   -- for this text's walks alone
set_option linter.unusedVariables false
set_option linter.unusedSimpArgs false

/-! ### slices.ContainsFunc[[]int,int] at loop.example/g00119/impl.sharesOk$1 -/
def impl_sharesOk_h32.f (l0 : List Int) : Option Bool := (idxO (fun x => impl_sharesOk_1.f x) l0 0).bind fun i => some (decide (0 ≤ i))
theorem impl_sharesOk_h32.calls (A0 : Option Addr) (c0 : Nat) (l0 : List Int) (r : Bool) (w : World) (hr0 : Kd.C (Kd.int .i64) w A0 l0.length l0) (hc0 : l0.length ≤ c0) (h : impl_sharesOk_h32.f l0 = some r) :
    Calls Try.prog 31 #[.slice A0 l0.length c0, .func (.func 32) #[] #[]] w fun e w' => e = .returned (.bool r) ∧ Below w.heap.size w w' := by
  unfold impl_sharesOk_h32.f at h
  obtain ⟨i, hi, hr⟩ := bind_some' h
  cases hr
  refine (slices_ContainsFunc_sint_int.calls (Kd.int .i64) rfl 32 (fun _ _ => by kernel_rfl) #[] _ A0 c0 l0 i w hr0 hc0 ?_ hi).mono ?_
  · intro x cs b W hx hp hk hb
    obtain rfl := hk
    exact (impl_sharesOk_1.calls x b W  hp).mono fun e w' h_ => ⟨h_.1, by first | exact h_.2 | exact h_.2.below⟩
  · rintro e w2 ⟨rfl, hb2⟩
    exact ⟨rfl, hb2⟩
/-! ### slices.ContainsFunc[[]int,int] at loop.example/g00119/impl.sharesOk$2 -/
def impl_sharesOk_h33.f (l0 : List Int) : Option Bool := (idxO (fun x => impl_sharesOk_2.f x) l0 0).bind fun i => some (decide (0 ≤ i))
theorem impl_sharesOk_h33.calls (A0 : Option Addr) (c0 : Nat) (l0 : List Int) (r : Bool) (w : World) (hr0 : Kd.C (Kd.int .i64) w A0 l0.length l0) (hc0 : l0.length ≤ c0) (h : impl_sharesOk_h33.f l0 = some r) :
    Calls Try.prog 31 #[.slice A0 l0.length c0, .func (.func 33) #[] #[]] w fun e w' => e = .returned (.bool r) ∧ Below w.heap.size w w' := by
  unfold impl_sharesOk_h33.f at h
  obtain ⟨i, hi, hr⟩ := bind_some' h
  cases hr
  refine (slices_ContainsFunc_sint_int.calls (Kd.int .i64) rfl 33 (fun _ _ => by kernel_rfl) #[] _ A0 c0 l0 i w hr0 hc0 ?_ hi).mono ?_
  · intro x cs b W hx hp hk hb
    obtain rfl := hk
    exact (impl_sharesOk_2.calls x b W  hp).mono fun e w' h_ => ⟨h_.1, by first | exact h_.2 | exact h_.2.below⟩
  · rintro e w2 ⟨rfl, hb2⟩
    exact ⟨rfl, hb2⟩
/-! ### impl_sharesOk: function 22 -/
def impl_sharesOk.f (a0 : Int) (l1 : List Int) (l2 : List Int) : Option (Bool) := (impl_within.f a0 0 10000).bind fun t167 => (if t167 = true then (if (l1.length : Int) ≤ 64 then (if (l2.length : Int) = (l1.length : Int) then ((impl_sharesOk_h32.f l1).bind fun t168 => (if t168 = true then (some false) else ((impl_sharesOk_h33.f l2).bind fun t169 => (some (!t169))))) else (some false)) else (some false)) else (some false))
set_option maxHeartbeats 8000000 in
set_option maxRecDepth 100000 in
theorem impl_sharesOk.calls (a0 : Int) (A1 : Option Addr) (c1 : Nat) (l1 : List Int) (A2 : Option Addr) (c2 : Nat) (l2 : List Int) (r : Bool) (w : World) (hr1 : Kd.C (Kd.int .i64) w A1 l1.length l1) (hc1 : l1.length ≤ c1) (hr2 : Kd.C (Kd.int .i64) w A2 l2.length l2) (hc2 : l2.length ≤ c2) (h : impl_sharesOk.f a0 l1 l2 = some r) :
    Calls Try.prog 22 #[.int .i64 a0, .slice A1 l1.length c1, .slice A2 l2.length c2] w fun e w' => e = .returned (.bool r) ∧ Below w.heap.size w w' := by
  have HR1 := Aside0.mk hr1
  have HC1 := Aside0.mk hc1
  clear hr1 hc1
  have HR2 := Aside0.mk hr2
  have HC2 := Aside0.mk hc2
  clear hr2 hc2
  have HB := Aside0.mk (Below.refl w.heap.size w)
  have H : ((impl_within.f a0 0 10000).bind fun t167 => (if t167 = true then (if (l1.length : Int) ≤ 64 then (if (l2.length : Int) = (l1.length : Int) then ((impl_sharesOk_h32.f l1).bind fun t168 => (if t168 = true then (some false) else ((impl_sharesOk_h33.f l2).bind fun t169 => (some (!t169))))) else (some false)) else (some false)) else (some false))) = some r := h
  clear h
  replace H := Option.bind_eq_some_iff.mp H
  obtain ⟨t167, A40, H⟩ := H
  replace H : (if t167 = true then (if (l1.length : Int) ≤ 64 then (if (l2.length : Int) = (l1.length : Int) then ((impl_sharesOk_h32.f l1).bind fun t168 => (if t168 = true then (some false) else ((impl_sharesOk_h33.f l2).bind fun t169 => (some (!t169))))) else (some false)) else (some false)) else (some false)) = some r := H
  have A4 := Aside0.mk A40
  clear A40
  by_cases c5 : t167 = true
  · subst c5
    have H1 : (if (l1.length : Int) ≤ 64 then (if (l2.length : Int) = (l1.length : Int) then ((impl_sharesOk_h32.f l1).bind fun t168 => (if t168 = true then (some false) else ((impl_sharesOk_h33.f l2).bind fun t169 => (some (!t169))))) else (some false)) else (some false)) = some r := by rw [if_pos rfl] at H; exact H
    clear H
    have H := H1
    clear H1
    by_cases c6 : (l1.length : Int) ≤ 64
    · rw [if_pos c6] at H
      have c6b0 : decide ((l1.length : Int) ≤ 64) = true := decide_eq_true c6
      have c6b1 : decide (l1.length ≤ 64) = true := decide_eq_true (by omega)
      clear c6
      by_cases c7 : (l2.length : Int) = (l1.length : Int)
      · rw [if_pos c7] at H
        have c7b0 : ((l2.length : Int) == (l1.length : Int)) = true := beq_iff_eq.mpr c7
        have c7b1 : ((l2.length : Int) != (l1.length : Int)) = false := bne_eq_false_iff_eq.mpr c7
        have c7b2 : (l2.length == l1.length) = true := by first | simpa using c7 | (simp at c7 ⊢; omega)
        clear c7
        replace H := Option.bind_eq_some_iff.mp H
        obtain ⟨t168, A80, H⟩ := H
        replace H : (if t168 = true then (some false) else ((impl_sharesOk_h33.f l2).bind fun t169 => (some (!t169)))) = some r := H
        have A8 := Aside0.mk A80
        clear A80
        by_cases c9 : t168 = true
        · subst c9
          have H1 : (some false) = some r := by rw [if_pos rfl] at H; exact H
          clear H
          have H := H1
          clear H1
          obtain rfl := Option.some.inj H
          go_enter Try.func22, Try.ntmps22
          go_wp2_with (first | ((with_reducible refine gate_callee (f := 29) rfl ?_); refine goesL_ (some 8) rfl rfl Try.func29 (by kernel_rfl) rfl #[.int .i64 a0, .int .i64 0, .int .i64 10000] rfl (by (try simp only [List.map_toArray, List.map_cons, List.map_nil]); first | done | rfl | (simp only [List.length_drop, List.length_take]; rfl)) ?_; (with_reducible refine (impl_within.calls a0 0 10000 true _ A4.out).mono ?_); rintro e w' ⟨rfl, ⟨nd, rfl⟩⟩; refine ⟨_, rfl, ?_⟩) | (go_at_call 31; (with_reducible refine (impl_sharesOk_h32.calls _ _ l1 true _ ?side1 ?side2 A8.out).mono ?_); (case side1 => repeat (first | exact HR1.out | (with_reducible refine Kd.C_alloc ?_ _) | (with_reducible refine Kd.C_drewN ?_ _) | (with_reducible refine Kd.C_drew ?_))); (case side2 => exact HC1.out); rintro e w10 ⟨rfl, hb⟩; have n0_ := Aside0.mk (below_step (by repeat (first | (with_reducible first | exact HB.out | apply below_alloc | apply pw_below_drewN | apply below_drew1) | exact HB.out)) hb); clear HB; have HB := n0_; clear n0_; (try clear hb); (try clear hb2); (try clear hk); (try clear hi)))
          go_ret
          exact ⟨by first | rfl | (simp [errW_none, errW_some] <;> rfl) | (simp [*, errW_none, errW_some] <;> rfl), by repeat (first | (with_reducible first | exact HB.out | apply below_alloc | apply pw_below_drewN | apply below_drew1) | exact HB.out)⟩
        · replace c9 := Bool.eq_false_iff.mpr c9
          subst c9
          have H1 : ((impl_sharesOk_h33.f l2).bind fun t169 => (some (!t169))) = some r := by rw [if_neg (show ¬ (false = true) by decide)] at H; exact H
          clear H
          have H := H1
          clear H1
          replace H := Option.bind_eq_some_iff.mp H
          obtain ⟨t169, A110, H⟩ := H
          replace H : (some (!t169)) = some r := H
          have A11 := Aside0.mk A110
          clear A110
          obtain rfl := Option.some.inj H
          go_enter Try.func22, Try.ntmps22
          go_wp2_with (first | ((with_reducible refine gate_callee (f := 29) rfl ?_); refine goesL_ (some 8) rfl rfl Try.func29 (by kernel_rfl) rfl #[.int .i64 a0, .int .i64 0, .int .i64 10000] rfl (by (try simp only [List.map_toArray, List.map_cons, List.map_nil]); first | done | rfl | (simp only [List.length_drop, List.length_take]; rfl)) ?_; (with_reducible refine (impl_within.calls a0 0 10000 true _ A4.out).mono ?_); rintro e w' ⟨rfl, ⟨nd, rfl⟩⟩; refine ⟨_, rfl, ?_⟩) | (go_at_call 31; (with_reducible refine (impl_sharesOk_h32.calls _ _ l1 false _ ?side1 ?side2 A8.out).mono ?_); (case side1 => repeat (first | exact HR1.out | (with_reducible refine Kd.C_alloc ?_ _) | (with_reducible refine Kd.C_drewN ?_ _) | (with_reducible refine Kd.C_drew ?_))); (case side2 => exact HC1.out); rintro e w12 ⟨rfl, hb⟩; have n0_ := Aside0.mk (below_step (by repeat (first | (with_reducible first | exact HB.out | apply below_alloc | apply pw_below_drewN | apply below_drew1) | exact HB.out)) hb); clear HB; have HB := n0_; clear n0_; (try clear hb); (try clear hb2); (try clear hk); (try clear hi)) | (go_at_call 31; (with_reducible refine (impl_sharesOk_h33.calls _ _ l2 t169 _ ?side1 ?side2 A11.out).mono ?_); (case side1 => repeat (first | exact (Kd.C_below HR2.out HB.out) | (with_reducible refine Kd.C_alloc ?_ _) | (with_reducible refine Kd.C_drewN ?_ _) | (with_reducible refine Kd.C_drew ?_))); (case side2 => exact HC2.out); rintro e w13 ⟨rfl, hb⟩; have n0_ := Aside0.mk (below_step (by repeat (first | (with_reducible first | exact HB.out | apply below_alloc | apply pw_below_drewN | apply below_drew1) | exact HB.out)) hb); clear HB; have HB := n0_; clear n0_; (try clear hb); (try clear hb2); (try clear hk); (try clear hi)))
          go_ret
          exact ⟨by first | rfl | (simp [errW_none, errW_some] <;> rfl) | (simp [*, errW_none, errW_some] <;> rfl), by repeat (first | (with_reducible first | exact HB.out | apply below_alloc | apply pw_below_drewN | apply below_drew1) | exact HB.out)⟩
      · rw [if_neg c7] at H
        have c7b0 : ((l2.length : Int) == (l1.length : Int)) = false := beq_eq_false_iff_ne.mpr c7
        have c7b1 : ((l2.length : Int) != (l1.length : Int)) = true := bne_iff_ne.mpr c7
        have c7b2 : (l2.length == l1.length) = false := by first | simpa using c7 | (simp at c7 ⊢; omega)
        obtain rfl := Option.some.inj H
        go_enter Try.func22, Try.ntmps22
        go_wp2_with (first | ((with_reducible refine gate_callee (f := 29) rfl ?_); refine goesL_ (some 8) rfl rfl Try.func29 (by kernel_rfl) rfl #[.int .i64 a0, .int .i64 0, .int .i64 10000] rfl (by (try simp only [List.map_toArray, List.map_cons, List.map_nil]); first | done | rfl | (simp only [List.length_drop, List.length_take]; rfl)) ?_; (with_reducible refine (impl_within.calls a0 0 10000 true _ A4.out).mono ?_); rintro e w' ⟨rfl, ⟨nd, rfl⟩⟩; refine ⟨_, rfl, ?_⟩))
        go_ret
        exact ⟨by first | rfl | (simp [errW_none, errW_some] <;> rfl) | (simp [*, errW_none, errW_some] <;> rfl), by repeat (first | (with_reducible first | exact HB.out | apply below_alloc | apply pw_below_drewN | apply below_drew1) | exact HB.out)⟩
    · rw [if_neg c6] at H
      have c6b0 : decide ((l1.length : Int) ≤ 64) = false := decide_eq_false c6
      have c6b1 : decide (l1.length ≤ 64) = false := decide_eq_false (by omega)
      clear c6
      obtain rfl := Option.some.inj H
      go_enter Try.func22, Try.ntmps22
      go_wp2_with (first | ((with_reducible refine gate_callee (f := 29) rfl ?_); refine goesL_ (some 8) rfl rfl Try.func29 (by kernel_rfl) rfl #[.int .i64 a0, .int .i64 0, .int .i64 10000] rfl (by (try simp only [List.map_toArray, List.map_cons, List.map_nil]); first | done | rfl | (simp only [List.length_drop, List.length_take]; rfl)) ?_; (with_reducible refine (impl_within.calls a0 0 10000 true _ A4.out).mono ?_); rintro e w' ⟨rfl, ⟨nd, rfl⟩⟩; refine ⟨_, rfl, ?_⟩))
      go_ret
      exact ⟨by first | rfl | (simp [errW_none, errW_some] <;> rfl) | (simp [*, errW_none, errW_some] <;> rfl), by repeat (first | (with_reducible first | exact HB.out | apply below_alloc | apply pw_below_drewN | apply below_drew1) | exact HB.out)⟩
  · replace c5 := Bool.eq_false_iff.mpr c5
    subst c5
    have H1 : (some false) = some r := by rw [if_neg (show ¬ (false = true) by decide)] at H; exact H
    clear H
    have H := H1
    clear H1
    obtain rfl := Option.some.inj H
    go_enter Try.func22, Try.ntmps22
    go_wp2_with (first | ((with_reducible refine gate_callee (f := 29) rfl ?_); refine goesL_ (some 8) rfl rfl Try.func29 (by kernel_rfl) rfl #[.int .i64 a0, .int .i64 0, .int .i64 10000] rfl (by (try simp only [List.map_toArray, List.map_cons, List.map_nil]); first | done | rfl | (simp only [List.length_drop, List.length_take]; rfl)) ?_; (with_reducible refine (impl_within.calls a0 0 10000 false _ A4.out).mono ?_); rintro e w' ⟨rfl, ⟨nd, rfl⟩⟩; refine ⟨_, rfl, ?_⟩))
    go_ret
    exact ⟨by first | rfl | (simp [errW_none, errW_some] <;> rfl) | (simp [*, errW_none, errW_some] <;> rfl), by repeat (first | (with_reducible first | exact HB.out | apply below_alloc | apply pw_below_drewN | apply below_drew1) | exact HB.out)⟩

end Go.Proofs.Yteilcchcekmooaa.G

/- G30 -/
-- Laid by wip/g/gprint.py out of the translation, by the kit's print program. Lean checks it.
namespace Go.Proofs.Yteilcchcekmooaa.G
open Go.RowKit Go.Proofs.YteilcchcekmooaaW.PrintWords Go.Proofs.YteilcchcekmooaaW.PrintLast Go.Proofs.YteilcchcekmooaaW.PrintMore
attribute [local go_sem] max2_int min2_int max_two min_two max_three min_three max_four min_four   -- for this text's walks alone
set_option linter.unusedVariables false
set_option linter.unusedSimpArgs false

/-! ### spec_l1In: function 30 -/
def spec_l1In.f (a0 : Int) (a1 : Int) (a2 : Int) : Option (Bool) := if a0 ≥ a1 then (some (decide (a0 ≤ a2))) else (some false)
set_option maxHeartbeats 8000000 in
set_option maxRecDepth 100000 in
theorem spec_l1In.calls (a0 : Int) (a1 : Int) (a2 : Int) (r : Bool) (w : World) (h : spec_l1In.f a0 a1 a2 = some r) :
    Calls Try.prog 30 #[.int .i64 a0, .int .i64 a1, .int .i64 a2] w fun e w' => e = .returned (.bool r) ∧ Drawn0 w w' := by
  have H : (if a0 ≥ a1 then (some (decide (a0 ≤ a2))) else (some false)) = some r := h
  clear h
  by_cases c4 : a0 ≥ a1
  · rw [if_pos c4] at H
    have c4b0 : decide (a1 ≤ a0) = true := decide_eq_true c4
    clear c4
    obtain rfl := Option.some.inj H
    go_enter Try.func30, Try.ntmps30
    go_wp2
    go_ret
    exact ⟨by first | rfl | (simp; done) | (simp [*]; done), by repeat (first | exact Drawn0.refl _ | apply Drawn0.step)⟩
  · rw [if_neg c4] at H
    have c4b0 : decide (a1 ≤ a0) = false := decide_eq_false c4
    clear c4
    obtain rfl := Option.some.inj H
    go_enter Try.func30, Try.ntmps30
    go_wp2
    go_ret
    exact ⟨by first | rfl | (simp; done) | (simp [*]; done), by repeat (first | exact Drawn0.refl _ | apply Drawn0.step)⟩

end Go.Proofs.Yteilcchcekmooaa.G

/- G20 -/
-- Laid by wip/g/gprint.py out of the translation, by the kit's print program. Lean checks it.
namespace Go.Proofs.Yteilcchcekmooaa.G
open Go.RowKit Go.Proofs.YteilcchcekmooaaW.PrintWords Go.Proofs.YteilcchcekmooaaW.PrintLast Go.Proofs.YteilcchcekmooaaW.PrintMore
attribute [local go_sem] max2_int min2_int max_two min_two max_three min_three max_four min_four   -- for this text's walks alone
set_option linter.unusedVariables false
set_option linter.unusedSimpArgs false

/-! ### spec_l6Right: function 20 -/
mutual
def spec_l6Right.j0 : Nat → List Int → List Int → Bool → Option (Bool)
  | 0, _, _, _ => none
  | k + 1, x1, x2, x22 => if x22 = true then (some false) else (spec_l6Right.l0 k x1 x2 0)
def spec_l6Right.l0 : Nat → List Int → List Int → Int → Option (Bool)
  | 0, _, _, _ => none
  | k + 1, x1, x2, x7 => if x7 < (x1.length : Int) then (if 0 ≤ x7 then ((spec_l1In.f (rd x1 x7) 0 1000).bind fun t103 => (if t103 = true then (if x7 < (x2.length : Int) then ((spec_l1In.f (rd x2 x7) 0 10000).bind fun t105 => (if t105 = true then (spec_l6Right.l0 k x1 x2 (wrap64 (x7 + 1))) else (some false))) else (none)) else (some false))) else (none)) else (some true)
end
def spec_l6Right.f (k : Nat) (a0 : Int) (l1 : List Int) (l2 : List Int) : Option (Bool) := (spec_l1In.f a0 0 10000).bind fun t101 => (if t101 = true then (if (l1.length : Int) > 64 then (spec_l6Right.j0 k l1 l2 true) else (spec_l6Right.j0 k l1 l2 ((l1.length : Int) != (l2.length : Int)))) else (spec_l6Right.j0 k l1 l2 true))
set_option maxHeartbeats 8000000 in
set_option maxRecDepth 100000 in
theorem spec_l6Right.calls (k : Nat) (a0 : Int) (A1 : Option Addr) (c1 : Nat) (l1 : List Int) (A2 : Option Addr) (c2 : Nat) (l2 : List Int) (r : Bool) (w : World) (hr1 : Kd.C (Kd.int .i64) w A1 l1.length l1) (hc1 : l1.length ≤ c1) (hr2 : Kd.C (Kd.int .i64) w A2 l2.length l2) (hc2 : l2.length ≤ c2) (h : spec_l6Right.f k a0 l1 l2 = some r) :
    Calls Try.prog 20 #[.int .i64 a0, .slice A1 l1.length c1, .slice A2 l2.length c2] w fun e w' => e = .returned (.bool r) ∧ Drawn0 w w' := by
  have HR1 := Aside0.mk hr1
  have HC1 := Aside0.mk hc1
  clear hr1 hc1
  have HR2 := Aside0.mk hr2
  have HC2 := Aside0.mk hc2
  clear hr2 hc2
  have H : ((spec_l1In.f a0 0 10000).bind fun t101 => (if t101 = true then (if (l1.length : Int) > 64 then (spec_l6Right.j0 k l1 l2 true) else (spec_l6Right.j0 k l1 l2 ((l1.length : Int) != (l2.length : Int)))) else (spec_l6Right.j0 k l1 l2 true))) = some r := h
  clear h
  have HC4 := Aside0.mk H
  clear H
  go_enter Try.func20, Try.ntmps20
  go_upto_region 1 with (fail)
  go_cut [22] (fun v22 wc => ∃ (kq : Nat) (x22_3 : Bool), v22 = .bool x22_3 ∧ Aside0 (spec_l6Right.j0 kq l1 l2 x22_3 = some r) ∧ Aside0 (kq ≤ k) ∧ Drawn0 w wc)
  case first =>
    have H := HC4.out
    clear HC4
    replace H := Option.bind_eq_some_iff.mp H
    obtain ⟨t101, A50, H⟩ := H
    replace H : (if t101 = true then (if (l1.length : Int) > 64 then (spec_l6Right.j0 k l1 l2 true) else (spec_l6Right.j0 k l1 l2 ((l1.length : Int) != (l2.length : Int)))) else (spec_l6Right.j0 k l1 l2 true)) = some r := H
    have A5 := Aside0.mk A50
    clear A50
    by_cases c6 : t101 = true
    · subst c6
      have H1 : (if (l1.length : Int) > 64 then (spec_l6Right.j0 k l1 l2 true) else (spec_l6Right.j0 k l1 l2 ((l1.length : Int) != (l2.length : Int)))) = some r := by rw [if_pos rfl] at H; exact H
      clear H
      have H := H1
      clear H1
      by_cases c7 : (l1.length : Int) > 64
      · rw [if_pos c7] at H
        have c7b0 : decide (64 < (l1.length : Int)) = true := decide_eq_true c7
        have c7b1 : decide (64 < l1.length) = true := decide_eq_true (by omega)
        clear c7
        (first | rw [c7b0] | (simp only [i64_w, i32_w]; rw [c7b0]) | skip)
        have H' := Aside0.mk H
        clear H
        go_wp2_with (first | ((with_reducible refine gate_callee (f := 30) rfl ?_); refine goesL_ (some 9) rfl rfl Try.func30 (by kernel_rfl) rfl #[.int .i64 a0, .int .i64 0, .int .i64 10000] rfl (by (try simp only [List.map_toArray, List.map_cons, List.map_nil]); first | done | rfl | (simp only [List.length_drop, List.length_take]; rfl)) ?_; (with_reducible refine (spec_l1In.calls a0 0 10000 true _ A5.out).mono ?_); rintro e w' ⟨rfl, ⟨nd, rfl⟩⟩; refine ⟨_, rfl, ?_⟩))
        go_meet
        case rel => exact ⟨_, (true), (by first | rfl | (simp; done) | (simp [*]; done)), H', ⟨by first | omega | exact Nat.le_refl _⟩, by repeat (first | exact Drawn0.refl _ | apply Drawn0.step)⟩
      · rw [if_neg c7] at H
        have c7b0 : decide (64 < (l1.length : Int)) = false := decide_eq_false c7
        have c7b1 : decide (64 < l1.length) = false := decide_eq_false (by omega)
        clear c7
        (first | rw [c7b0] | (simp only [i64_w, i32_w]; rw [c7b0]) | skip)
        have H' := Aside0.mk H
        clear H
        go_wp2_with (first | ((with_reducible refine gate_callee (f := 30) rfl ?_); refine goesL_ (some 9) rfl rfl Try.func30 (by kernel_rfl) rfl #[.int .i64 a0, .int .i64 0, .int .i64 10000] rfl (by (try simp only [List.map_toArray, List.map_cons, List.map_nil]); first | done | rfl | (simp only [List.length_drop, List.length_take]; rfl)) ?_; (with_reducible refine (spec_l1In.calls a0 0 10000 true _ A5.out).mono ?_); rintro e w' ⟨rfl, ⟨nd, rfl⟩⟩; refine ⟨_, rfl, ?_⟩))
        go_meet
        case rel => exact ⟨_, (((l1.length : Int) != (l2.length : Int))), (by first | rfl | (simp; done) | (simp [*]; done)), H', ⟨by first | omega | exact Nat.le_refl _⟩, by repeat (first | exact Drawn0.refl _ | apply Drawn0.step)⟩
    · replace c6 := Bool.eq_false_iff.mpr c6
      subst c6
      have H1 : (spec_l6Right.j0 k l1 l2 true) = some r := by rw [if_neg (show ¬ (false = true) by decide)] at H; exact H
      clear H
      have H := H1
      clear H1
      have H' := Aside0.mk H
      clear H
      go_wp2_with (first | ((with_reducible refine gate_callee (f := 30) rfl ?_); refine goesL_ (some 9) rfl rfl Try.func30 (by kernel_rfl) rfl #[.int .i64 a0, .int .i64 0, .int .i64 10000] rfl (by (try simp only [List.map_toArray, List.map_cons, List.map_nil]); first | done | rfl | (simp only [List.length_drop, List.length_take]; rfl)) ?_; (with_reducible refine (spec_l1In.calls a0 0 10000 false _ A5.out).mono ?_); rintro e w' ⟨rfl, ⟨nd, rfl⟩⟩; refine ⟨_, rfl, ?_⟩))
      go_meet
      case rel => exact ⟨_, (true), (by first | rfl | (simp; done) | (simp [*]; done)), H', ⟨by first | omega | exact Nat.le_refl _⟩, by repeat (first | exact Drawn0.refl _ | apply Drawn0.step)⟩
  case rest =>
    clear HC4
    try clear c1
    try clear c2
    try clear p2
    try clear c3
    try clear c6
    try clear c7
    try clear c7b0
    try clear c7b1
    obtain ⟨kq, x22_3, rfl, HA, HJ3, ⟨mc3, rfl⟩⟩ := hcut
    cases kq with
    | zero => exact absurd HA.out (by simp [spec_l6Right.j0])
    | succ kj3 =>
      have H := HA.out
      clear HA
      simp only [spec_l6Right.j0] at H
      by_cases c8 : x22_3 = true
      · subst c8
        have H1 : (some false) = some r := by rw [if_pos rfl] at H; exact H
        clear H
        have H := H1
        clear H1
        obtain rfl := Option.some.inj H
        go_wp2
        go_ret
        exact ⟨by first | rfl | (simp; done) | (simp [*]; done), by repeat (first | exact Drawn0.refl _ | apply Drawn0.step)⟩
      · replace c8 := Bool.eq_false_iff.mpr c8
        subst c8
        have H1 : (spec_l6Right.l0 kj3 l1 l2 0) = some r := by rw [if_neg (show ¬ (false = true) by decide)] at H; exact H
        clear H
        have H := H1
        clear H1
        have H' := Aside0.mk H
        clear H
        go_wp2
        go_loopg [7] kj3 (fun kq v7 w' => ∃ (x7_2 : Int), v7 = .int .i64 x7_2 ∧ Aside0 (spec_l6Right.l0 kq l1 l2 x7_2 = some r) ∧ Aside0 (kq ≤ kj3) ∧ Drawn0 w w')
        case atStart => exact ⟨(0), (by first | rfl | (simp; done) | (simp [*]; done)), H', ⟨Nat.le_refl _⟩, by repeat (first | exact Drawn0.refl _ | apply Drawn0.step)⟩
        case round =>
          clear H'
          try clear c1
          try clear c2
          try clear p2
          try clear c3
          try clear c6
          try clear c7
          try clear c7b0
          try clear c7b1
          try clear c8
          try clear p2
          obtain ⟨x7_2, rfl, HA, HK2, ⟨m2, rfl⟩⟩ := hrel
          cases gk with
          | zero => exact absurd HA.out (by simp [spec_l6Right.l0])
          | succ k2 =>
            have H := HA.out
            clear HA
            simp only [spec_l6Right.l0] at H
            by_cases c9 : x7_2 < (l1.length : Int)
            · rw [if_pos c9] at H
              have c9b0 : decide (x7_2 < (l1.length : Int)) = true := decide_eq_true c9
              clear c9
              by_cases c10 : 0 ≤ x7_2
              · rw [if_pos c10] at H
                have c10b0 : decide (0 ≤ x7_2) = true := decide_eq_true c10
                clear c10
                replace H := Option.bind_eq_some_iff.mp H
                obtain ⟨t103, A110, H⟩ := H
                replace H : (if t103 = true then (if x7_2 < (l2.length : Int) then ((spec_l1In.f (rd l2 x7_2) 0 10000).bind fun t105 => (if t105 = true then (spec_l6Right.l0 k2 l1 l2 (wrap64 (x7_2 + 1))) else (some false))) else (none)) else (some false)) = some r := H
                have A11 := Aside0.mk A110
                clear A110
                by_cases c12 : t103 = true
                · subst c12
                  have H1 : (if x7_2 < (l2.length : Int) then ((spec_l1In.f (rd l2 x7_2) 0 10000).bind fun t105 => (if t105 = true then (spec_l6Right.l0 k2 l1 l2 (wrap64 (x7_2 + 1))) else (some false))) else (none)) = some r := by rw [if_pos rfl] at H; exact H
                  clear H
                  have H := H1
                  clear H1
                  by_cases c13 : x7_2 < (l2.length : Int)
                  · rw [if_pos c13] at H
                    have c13b0 : decide (x7_2 < (l2.length : Int)) = true := decide_eq_true c13
                    clear c13
                    replace H := Option.bind_eq_some_iff.mp H
                    obtain ⟨t105, A140, H⟩ := H
                    replace H : (if t105 = true then (spec_l6Right.l0 k2 l1 l2 (wrap64 (x7_2 + 1))) else (some false)) = some r := H
                    have A14 := Aside0.mk A140
                    clear A140
                    by_cases c15 : t105 = true
                    · subst c15
                      have H1 : (spec_l6Right.l0 k2 l1 l2 (wrap64 (x7_2 + 1))) = some r := by rw [if_pos rfl] at H; exact H
                      clear H
                      have H := H1
                      clear H1
                      have H' := Aside0.mk H
                      clear H
                      have p102 : 0 ≤ (x7_2 : Int) := of_decide_eq_true (by first | (with_reducible assumption) | assumption)
                      have q102 : x7_2 < (l1.length : Int) := of_decide_eq_true (by first | (with_reducible assumption) | assumption)
                      obtain ⟨ad102, e102, hx102_0⟩ := Kd.at_int HR1.out x7_2 p102 q102
                      cases e102
                      replace p102 := eq_true p102
                      replace q102 := eq_true q102
                      go_wp2_with (first | ((with_reducible refine gate_callee (f := 30) rfl ?_); refine goesL_ (some 33) rfl rfl Try.func30 (by kernel_rfl) rfl #[.int .i64 (rd l1 x7_2), .int .i64 0, .int .i64 1000] rfl (by (try simp only [List.map_toArray, List.map_cons, List.map_nil]); first | done | rfl | (simp only [List.length_drop, List.length_take]; rfl)) ?_; (with_reducible refine (spec_l1In.calls (rd l1 x7_2) 0 1000 true _ A11.out).mono ?_); rintro e w' ⟨rfl, ⟨nd, rfl⟩⟩; refine ⟨_, rfl, ?_⟩; have p104 : 0 ≤ (x7_2 : Int) := of_decide_eq_true (by first | (with_reducible assumption) | assumption); have q104 : x7_2 < (l2.length : Int) := of_decide_eq_true (by first | (with_reducible assumption) | assumption); obtain ⟨ad104, e104, hx104_0⟩ := Kd.at_int HR2.out x7_2 p104 q104; cases e104; replace p104 := eq_true p104; replace q104 := eq_true q104) | (go_at_call 30; (with_reducible refine (spec_l1In.calls (rd l2 x7_2) 0 10000 true _ A14.out).mono ?_); rintro e w' ⟨rfl, ⟨nd, rfl⟩⟩))
                      go_roundg k2
                      case measure => have := HJ3.out; have := HK2.out; omega
                      case rel => exact ⟨(wrap64 (x7_2 + 1)), (by first | rfl | (simp; done) | (simp [*]; done)), H', ⟨by have := HJ3.out; have := HK2.out; omega⟩, by repeat (first | exact Drawn0.refl _ | apply Drawn0.step)⟩
                    · replace c15 := Bool.eq_false_iff.mpr c15
                      subst c15
                      have H1 : (some false) = some r := by rw [if_neg (show ¬ (false = true) by decide)] at H; exact H
                      clear H
                      have H := H1
                      clear H1
                      obtain rfl := Option.some.inj H
                      have p102 : 0 ≤ (x7_2 : Int) := of_decide_eq_true (by first | (with_reducible assumption) | assumption)
                      have q102 : x7_2 < (l1.length : Int) := of_decide_eq_true (by first | (with_reducible assumption) | assumption)
                      obtain ⟨ad102, e102, hx102_0⟩ := Kd.at_int HR1.out x7_2 p102 q102
                      cases e102
                      replace p102 := eq_true p102
                      replace q102 := eq_true q102
                      go_wp2_with (first | ((with_reducible refine gate_callee (f := 30) rfl ?_); refine goesL_ (some 33) rfl rfl Try.func30 (by kernel_rfl) rfl #[.int .i64 (rd l1 x7_2), .int .i64 0, .int .i64 1000] rfl (by (try simp only [List.map_toArray, List.map_cons, List.map_nil]); first | done | rfl | (simp only [List.length_drop, List.length_take]; rfl)) ?_; (with_reducible refine (spec_l1In.calls (rd l1 x7_2) 0 1000 true _ A11.out).mono ?_); rintro e w' ⟨rfl, ⟨nd, rfl⟩⟩; refine ⟨_, rfl, ?_⟩; have p104 : 0 ≤ (x7_2 : Int) := of_decide_eq_true (by first | (with_reducible assumption) | assumption); have q104 : x7_2 < (l2.length : Int) := of_decide_eq_true (by first | (with_reducible assumption) | assumption); obtain ⟨ad104, e104, hx104_0⟩ := Kd.at_int HR2.out x7_2 p104 q104; cases e104; replace p104 := eq_true p104; replace q104 := eq_true q104) | (go_at_call 30; (with_reducible refine (spec_l1In.calls (rd l2 x7_2) 0 10000 false _ A14.out).mono ?_); rintro e w' ⟨rfl, ⟨nd, rfl⟩⟩))
                      go_ret
                      exact ⟨by first | rfl | (simp; done) | (simp [*]; done), by repeat (first | exact Drawn0.refl _ | apply Drawn0.step)⟩
                  · rw [if_neg c13] at H
                    exact absurd H (by simp)
                · replace c12 := Bool.eq_false_iff.mpr c12
                  subst c12
                  have H1 : (some false) = some r := by rw [if_neg (show ¬ (false = true) by decide)] at H; exact H
                  clear H
                  have H := H1
                  clear H1
                  obtain rfl := Option.some.inj H
                  have p102 : 0 ≤ (x7_2 : Int) := of_decide_eq_true (by first | (with_reducible assumption) | assumption)
                  have q102 : x7_2 < (l1.length : Int) := of_decide_eq_true (by first | (with_reducible assumption) | assumption)
                  obtain ⟨ad102, e102, hx102_0⟩ := Kd.at_int HR1.out x7_2 p102 q102
                  cases e102
                  replace p102 := eq_true p102
                  replace q102 := eq_true q102
                  go_wp2_with (first | ((with_reducible refine gate_callee (f := 30) rfl ?_); refine goesL_ (some 33) rfl rfl Try.func30 (by kernel_rfl) rfl #[.int .i64 (rd l1 x7_2), .int .i64 0, .int .i64 1000] rfl (by (try simp only [List.map_toArray, List.map_cons, List.map_nil]); first | done | rfl | (simp only [List.length_drop, List.length_take]; rfl)) ?_; (with_reducible refine (spec_l1In.calls (rd l1 x7_2) 0 1000 false _ A11.out).mono ?_); rintro e w' ⟨rfl, ⟨nd, rfl⟩⟩; refine ⟨_, rfl, ?_⟩))
                  go_ret
                  exact ⟨by first | rfl | (simp; done) | (simp [*]; done), by repeat (first | exact Drawn0.refl _ | apply Drawn0.step)⟩
              · rw [if_neg c10] at H
                exact absurd H (by simp)
            · rw [if_neg c9] at H
              have c9b0 : decide (x7_2 < (l1.length : Int)) = false := decide_eq_false c9
              clear c9
              obtain rfl := Option.some.inj H
              go_wp2
              go_ret
              exact ⟨by first | rfl | (simp; done) | (simp [*]; done), by repeat (first | exact Drawn0.refl _ | apply Drawn0.step)⟩

end Go.Proofs.Yteilcchcekmooaa.G

/- G14 -/
-- Laid by wip/g/gprint.py out of the translation, by the kit's print program. Lean checks it.
namespace Go.Proofs.Yteilcchcekmooaa.G
open Go.RowKit Go.Proofs.YteilcchcekmooaaW.PrintWords Go.Proofs.YteilcchcekmooaaW.PrintLast Go.Proofs.YteilcchcekmooaaW.PrintMore
attribute [local go_sem] max2_int min2_int max_two min_two max_three min_three max_four min_four   -- for this text's walks alone
set_option linter.unusedVariables false
set_option linter.unusedSimpArgs false

/-! ### impl_Total: function 14 -/
def impl_Total.l0 : Nat → Int → List Int → Int → List Int → Int → Int → Option (Int)
  | 0, _, _, _, _, _, _ => none
  | k + 1, x0, x2, x7, x15, x16, x17 => if x17 < x16 then (if 0 ≤ x17 then (if x17 < (x15.length : Int) then (if (rd x15 x17) > 0 then (if x17 < (x2.length : Int) then (impl_Total.l0 k x0 x2 (wrap64 (x7 + (rd x2 x17))) x15 x16 (wrap64 (x17 + 1))) else (none)) else (impl_Total.l0 k x0 x2 x7 x15 x16 (wrap64 (x17 + 1)))) else (none)) else (none)) else (some (mn x0 x7))
def impl_Total.f (k : Nat) (a0 : Int) (l1 : List Int) (l2 : List Int) : Option (Int) := (impl_sharesOk.f a0 l1 l2).bind fun t333 => (if t333 = true then (impl_Total.l0 k a0 l2 0 l1 (l1.length : Int) 0) else (some (-1)))
set_option maxHeartbeats 8000000 in
set_option maxRecDepth 100000 in
theorem impl_Total.calls (k : Nat) (a0 : Int) (A1 : Option Addr) (c1 : Nat) (l1 : List Int) (A2 : Option Addr) (c2 : Nat) (l2 : List Int) (r : Int) (w : World) (hr1 : Kd.C (Kd.int .i64) w A1 l1.length l1) (hc1 : l1.length ≤ c1) (hr2 : Kd.C (Kd.int .i64) w A2 l2.length l2) (hc2 : l2.length ≤ c2) (h : impl_Total.f k a0 l1 l2 = some r) :
    Calls Try.prog 14 #[.int .i64 a0, .slice A1 l1.length c1, .slice A2 l2.length c2] w fun e w' => e = .returned (.int .i64 r) ∧ Below w.heap.size w w' := by
  have HR1 := Aside0.mk hr1
  have HC1 := Aside0.mk hc1
  clear hr1 hc1
  have HR2 := Aside0.mk hr2
  have HC2 := Aside0.mk hc2
  clear hr2 hc2
  have HB := Aside0.mk (Below.refl w.heap.size w)
  have H : ((impl_sharesOk.f a0 l1 l2).bind fun t333 => (if t333 = true then (impl_Total.l0 k a0 l2 0 l1 (l1.length : Int) 0) else (some (-1)))) = some r := h
  clear h
  replace H := Option.bind_eq_some_iff.mp H
  obtain ⟨t333, A40, H⟩ := H
  replace H : (if t333 = true then (impl_Total.l0 k a0 l2 0 l1 (l1.length : Int) 0) else (some (-1))) = some r := H
  have A4 := Aside0.mk A40
  clear A40
  by_cases c5 : t333 = true
  · subst c5
    have H1 : (impl_Total.l0 k a0 l2 0 l1 (l1.length : Int) 0) = some r := by rw [if_pos rfl] at H; exact H
    clear H
    have H := H1
    clear H1
    have H' := Aside0.mk H
    clear H
    go_enter Try.func14, Try.ntmps14
    go_wp2_with (first | ((with_reducible refine gate_callee (f := 22) rfl ?_); refine goesL_ (some 13) rfl rfl Try.func22 (by kernel_rfl) rfl #[.int .i64 a0, .slice A1 l1.length c1, .slice A2 l2.length c2] rfl (by (try simp only [List.map_toArray, List.map_cons, List.map_nil]); first | done | rfl | (simp only [List.length_drop, List.length_take]; rfl)) ?_; (with_reducible refine (impl_sharesOk.calls a0 _ _ l1 _ _ l2 true _ ?side1 ?side2 ?side3 ?side4 A4.out).mono ?_); (case side1 => repeat (first | exact HR1.out | (with_reducible refine Kd.C_alloc ?_ _) | (with_reducible refine Kd.C_drewN ?_ _) | (with_reducible refine Kd.C_drew ?_))); (case side2 => exact HC1.out); (case side3 => repeat (first | exact HR2.out | (with_reducible refine Kd.C_alloc ?_ _) | (with_reducible refine Kd.C_drewN ?_ _) | (with_reducible refine Kd.C_drew ?_))); (case side4 => exact HC2.out); rintro e w6 ⟨rfl, hb⟩; refine ⟨_, rfl, ?_⟩; have n0_ := Aside0.mk (below_step (by repeat (first | (with_reducible first | exact HB.out | apply below_alloc | apply pw_below_drewN | apply below_drew1) | exact HB.out)) hb); clear HB; have HB := n0_; clear n0_; (try clear hb); (try clear hb2); (try clear hk); (try clear hi)))
    go_loopg [7, 17] k (fun kq v7 v17 w' => ∃ (x7_1 : Int) (x17_1 : Int), v7 = .int .i64 x7_1 ∧ v17 = .int .i64 x17_1 ∧ Aside0 (impl_Total.l0 kq a0 l2 x7_1 l1 (l1.length : Int) x17_1 = some r) ∧ Aside0 (kq ≤ k) ∧ Aside0 (Below w.heap.size w w'))
    case atStart => exact ⟨(0), (0), (by first | rfl | (simp; done) | (simp [*]; done)), (by first | rfl | (simp; done) | (simp [*]; done)), H', ⟨Nat.le_refl _⟩, ⟨by repeat (first | (with_reducible first | exact HB.out | apply below_alloc | apply pw_below_drewN | apply below_drew1) | exact HB.out)⟩⟩
    case round =>
      clear H'
      try clear c1
      try clear c2
      try clear p2
      try clear c5
      obtain ⟨x7_1, x17_1, rfl, rfl, HA, HK1, HB⟩ := hrel
      cases gk with
      | zero => exact absurd HA.out (by simp [impl_Total.l0])
      | succ k1 =>
        have H := HA.out
        clear HA
        simp only [impl_Total.l0] at H
        by_cases c7 : x17_1 < (l1.length : Int)
        · rw [if_pos c7] at H
          have c7b0 : decide (x17_1 < (l1.length : Int)) = true := decide_eq_true c7
          clear c7
          by_cases c8 : 0 ≤ x17_1
          · rw [if_pos c8] at H
            have c8b0 : decide (0 ≤ x17_1) = true := decide_eq_true c8
            clear c8
            by_cases c9 : x17_1 < (l1.length : Int)
            · rw [if_pos c9] at H
              have c9b0 : decide (x17_1 < (l1.length : Int)) = true := decide_eq_true c9
              clear c9
              by_cases c10 : (rd l1 x17_1) > 0
              · rw [if_pos c10] at H
                have c10b0 : decide (0 < (rd l1 x17_1)) = true := decide_eq_true c10
                clear c10
                by_cases c11 : x17_1 < (l2.length : Int)
                · rw [if_pos c11] at H
                  have c11b0 : decide (x17_1 < (l2.length : Int)) = true := decide_eq_true c11
                  clear c11
                  have H' := Aside0.mk H
                  clear H
                  have p334 : 0 ≤ (x17_1 : Int) := of_decide_eq_true (by first | (with_reducible assumption) | assumption)
                  have q334 : x17_1 < (l1.length : Int) := of_decide_eq_true (by first | (with_reducible assumption) | assumption)
                  obtain ⟨ad334, e334, hx334_0⟩ := Kd.at_int HR1.out x17_1 p334 q334
                  cases e334
                  replace hx334_0 := (HB.out.cell (World.block_lt_of_cell? w _ hx334_0)).trans hx334_0
                  replace p334 := eq_true p334
                  replace q334 := eq_true q334
                  have p335 : 0 ≤ (x17_1 : Int) := of_decide_eq_true (by first | (with_reducible assumption) | assumption)
                  have q335 : x17_1 < (l2.length : Int) := of_decide_eq_true (by first | (with_reducible assumption) | assumption)
                  obtain ⟨ad335, e335, hx335_0⟩ := Kd.at_int HR2.out x17_1 p335 q335
                  cases e335
                  replace hx335_0 := (HB.out.cell (World.block_lt_of_cell? w _ hx335_0)).trans hx335_0
                  replace p335 := eq_true p335
                  replace q335 := eq_true q335
                  go_wp2
                  go_roundg k1
                  case measure => have := HK1.out; omega
                  case rel => exact ⟨(wrap64 (x7_1 + (rd l2 x17_1))), (wrap64 (x17_1 + 1)), (by first | rfl | (simp; done) | (simp [*]; done)), (by first | rfl | (simp; done) | (simp [*]; done)), H', ⟨by have := HK1.out; omega⟩, ⟨by repeat (first | (with_reducible first | exact HB.out | apply below_alloc | apply pw_below_drewN | apply below_drew1) | exact HB.out)⟩⟩
                · rw [if_neg c11] at H
                  exact absurd H (by simp)
              · rw [if_neg c10] at H
                have c10b0 : decide (0 < (rd l1 x17_1)) = false := decide_eq_false c10
                clear c10
                have H' := Aside0.mk H
                clear H
                have p334 : 0 ≤ (x17_1 : Int) := of_decide_eq_true (by first | (with_reducible assumption) | assumption)
                have q334 : x17_1 < (l1.length : Int) := of_decide_eq_true (by first | (with_reducible assumption) | assumption)
                obtain ⟨ad334, e334, hx334_0⟩ := Kd.at_int HR1.out x17_1 p334 q334
                cases e334
                replace hx334_0 := (HB.out.cell (World.block_lt_of_cell? w _ hx334_0)).trans hx334_0
                replace p334 := eq_true p334
                replace q334 := eq_true q334
                go_wp2
                go_roundg k1
                case measure => have := HK1.out; omega
                case rel => exact ⟨(x7_1), (wrap64 (x17_1 + 1)), (by first | rfl | (simp; done) | (simp [*]; done)), (by first | rfl | (simp; done) | (simp [*]; done)), H', ⟨by have := HK1.out; omega⟩, ⟨by repeat (first | (with_reducible first | exact HB.out | apply below_alloc | apply pw_below_drewN | apply below_drew1) | exact HB.out)⟩⟩
            · rw [if_neg c9] at H
              exact absurd H (by simp)
          · rw [if_neg c8] at H
            exact absurd H (by simp)
        · rw [if_neg c7] at H
          have c7b0 : decide (x17_1 < (l1.length : Int)) = false := decide_eq_false c7
          clear c7
          obtain ⟨ji12, hji12⟩ : ∃ j_ : Int, (mn a0 x7_1) = j_ := ⟨_, rfl⟩
          replace H : (some ji12) = some r := by first | (rw [hji12] at H; exact H) | (simp only [hji12] at H ⊢; exact H)
          have hji12_ : (if x7_1 < a0 then x7_1 else a0) = ji12 := hji12
          obtain rfl := Option.some.inj H
          go_wp2
          go_ret
          exact ⟨by first | rfl | (simp [errW_none, errW_some] <;> rfl) | (simp only [← hji12]; first | rfl | (simp [errW_none, errW_some] <;> rfl)) | (simp [*, errW_none, errW_some] <;> rfl), by repeat (first | (with_reducible first | exact HB.out | apply below_alloc | apply pw_below_drewN | apply below_drew1) | exact HB.out)⟩
  · replace c5 := Bool.eq_false_iff.mpr c5
    subst c5
    have H1 : (some (-1)) = some r := by rw [if_neg (show ¬ (false = true) by decide)] at H; exact H
    clear H
    have H := H1
    clear H1
    obtain rfl := Option.some.inj H
    go_enter Try.func14, Try.ntmps14
    go_wp2_with (first | ((with_reducible refine gate_callee (f := 22) rfl ?_); refine goesL_ (some 13) rfl rfl Try.func22 (by kernel_rfl) rfl #[.int .i64 a0, .slice A1 l1.length c1, .slice A2 l2.length c2] rfl (by (try simp only [List.map_toArray, List.map_cons, List.map_nil]); first | done | rfl | (simp only [List.length_drop, List.length_take]; rfl)) ?_; (with_reducible refine (impl_sharesOk.calls a0 _ _ l1 _ _ l2 false _ ?side1 ?side2 ?side3 ?side4 A4.out).mono ?_); (case side1 => repeat (first | exact HR1.out | (with_reducible refine Kd.C_alloc ?_ _) | (with_reducible refine Kd.C_drewN ?_ _) | (with_reducible refine Kd.C_drew ?_))); (case side2 => exact HC1.out); (case side3 => repeat (first | exact HR2.out | (with_reducible refine Kd.C_alloc ?_ _) | (with_reducible refine Kd.C_drewN ?_ _) | (with_reducible refine Kd.C_drew ?_))); (case side4 => exact HC2.out); rintro e w13 ⟨rfl, hb⟩; refine ⟨_, rfl, ?_⟩; have n0_ := Aside0.mk (below_step (by repeat (first | (with_reducible first | exact HB.out | apply below_alloc | apply pw_below_drewN | apply below_drew1) | exact HB.out)) hb); clear HB; have HB := n0_; clear n0_; (try clear hb); (try clear hb2); (try clear hk); (try clear hi)))
    go_ret
    exact ⟨by first | rfl | (simp [errW_none, errW_some] <;> rfl) | (simp [*, errW_none, errW_some] <;> rfl), by repeat (first | (with_reducible first | exact HB.out | apply below_alloc | apply pw_below_drewN | apply below_drew1) | exact HB.out)⟩

end Go.Proofs.Yteilcchcekmooaa.G

/- G15 -/
-- Laid by wip/g/gprint.py out of the translation, by the kit's print program. Lean checks it.
namespace Go.Proofs.Yteilcchcekmooaa.G
open Go.RowKit Go.Proofs.YteilcchcekmooaaW.PrintWords Go.Proofs.YteilcchcekmooaaW.PrintLast Go.Proofs.YteilcchcekmooaaW.PrintMore
attribute [local go_sem] max2_int min2_int max_two min_two max_three min_three max_four min_four   -- for this text's walks alone
set_option linter.unusedVariables false
set_option linter.unusedSimpArgs false

/-! ### spec_Total: function 15 -/
def spec_Total.l0 : Nat → Int → List Int → List Int → Int → Int → Option (Int)
  | 0, _, _, _, _, _ => none
  | k + 1, x0, x1, x2, x7, x8 => if x8 < (x1.length : Int) then (if 0 ≤ x8 then (if (rd x1 x8) > 0 then (if x8 < (x2.length : Int) then (spec_Total.l0 k x0 x1 x2 (wrap64 (x7 + (rd x2 x8))) (wrap64 (x8 + 1))) else (none)) else (spec_Total.l0 k x0 x1 x2 x7 (wrap64 (x8 + 1)))) else (none)) else (if x0 < x7 then (some x0) else (some x7))
def spec_Total.f (k : Nat) (a0 : Int) (l1 : List Int) (l2 : List Int) : Option (Int) := (spec_l6Right.f k a0 l1 l2).bind fun t336 => (if t336 = true then (spec_Total.l0 k a0 l1 l2 0 0) else (some (-1)))
set_option maxHeartbeats 8000000 in
set_option maxRecDepth 100000 in
theorem spec_Total.calls (k : Nat) (a0 : Int) (A1 : Option Addr) (c1 : Nat) (l1 : List Int) (A2 : Option Addr) (c2 : Nat) (l2 : List Int) (r : Int) (w : World) (hr1 : Kd.C (Kd.int .i64) w A1 l1.length l1) (hc1 : l1.length ≤ c1) (hr2 : Kd.C (Kd.int .i64) w A2 l2.length l2) (hc2 : l2.length ≤ c2) (h : spec_Total.f k a0 l1 l2 = some r) :
    Calls Try.prog 15 #[.int .i64 a0, .slice A1 l1.length c1, .slice A2 l2.length c2] w fun e w' => e = .returned (.int .i64 r) ∧ Drawn0 w w' := by
  have HR1 := Aside0.mk hr1
  have HC1 := Aside0.mk hc1
  clear hr1 hc1
  have HR2 := Aside0.mk hr2
  have HC2 := Aside0.mk hc2
  clear hr2 hc2
  have H : ((spec_l6Right.f k a0 l1 l2).bind fun t336 => (if t336 = true then (spec_Total.l0 k a0 l1 l2 0 0) else (some (-1)))) = some r := h
  clear h
  replace H := Option.bind_eq_some_iff.mp H
  obtain ⟨t336, A40, H⟩ := H
  replace H : (if t336 = true then (spec_Total.l0 k a0 l1 l2 0 0) else (some (-1))) = some r := H
  have A4 := Aside0.mk A40
  clear A40
  by_cases c5 : t336 = true
  · subst c5
    have H1 : (spec_Total.l0 k a0 l1 l2 0 0) = some r := by rw [if_pos rfl] at H; exact H
    clear H
    have H := H1
    clear H1
    have H' := Aside0.mk H
    clear H
    go_enter Try.func15, Try.ntmps15
    go_wp2_with (first | ((with_reducible refine gate_callee (f := 20) rfl ?_); refine goesL_ (some 12) rfl rfl Try.func20 (by kernel_rfl) rfl #[.int .i64 a0, .slice A1 l1.length c1, .slice A2 l2.length c2] rfl (by (try simp only [List.map_toArray, List.map_cons, List.map_nil]); first | done | rfl | (simp only [List.length_drop, List.length_take]; rfl)) ?_; (with_reducible refine (spec_l6Right.calls k a0 _ _ l1 _ _ l2 true _ ?side1 ?side2 ?side3 ?side4 A4.out).mono ?_); (case side1 => repeat (first | exact HR1.out | (with_reducible refine Kd.C_alloc ?_ _) | (with_reducible refine Kd.C_drewN ?_ _) | (with_reducible refine Kd.C_drew ?_))); (case side2 => exact HC1.out); (case side3 => repeat (first | exact HR2.out | (with_reducible refine Kd.C_alloc ?_ _) | (with_reducible refine Kd.C_drewN ?_ _) | (with_reducible refine Kd.C_drew ?_))); (case side4 => exact HC2.out); rintro e w' ⟨rfl, ⟨nd, rfl⟩⟩; refine ⟨_, rfl, ?_⟩))
    go_loopg [7, 8] k (fun kq v7 v8 w' => ∃ (x7_1 : Int) (x8_1 : Int), v7 = .int .i64 x7_1 ∧ v8 = .int .i64 x8_1 ∧ Aside0 (spec_Total.l0 kq a0 l1 l2 x7_1 x8_1 = some r) ∧ Aside0 (kq ≤ k) ∧ Drawn0 w w')
    case atStart => exact ⟨(0), (0), (by first | rfl | (simp; done) | (simp [*]; done)), (by first | rfl | (simp; done) | (simp [*]; done)), H', ⟨Nat.le_refl _⟩, by repeat (first | exact Drawn0.refl _ | apply Drawn0.step)⟩
    case round =>
      clear H'
      try clear c1
      try clear c2
      try clear p2
      try clear c5
      obtain ⟨x7_1, x8_1, rfl, rfl, HA, HK1, ⟨m1, rfl⟩⟩ := hrel
      cases gk with
      | zero => exact absurd HA.out (by simp [spec_Total.l0])
      | succ k1 =>
        have H := HA.out
        clear HA
        simp only [spec_Total.l0] at H
        by_cases c6 : x8_1 < (l1.length : Int)
        · rw [if_pos c6] at H
          have c6b0 : decide (x8_1 < (l1.length : Int)) = true := decide_eq_true c6
          clear c6
          by_cases c7 : 0 ≤ x8_1
          · rw [if_pos c7] at H
            have c7b0 : decide (0 ≤ x8_1) = true := decide_eq_true c7
            clear c7
            by_cases c8 : (rd l1 x8_1) > 0
            · rw [if_pos c8] at H
              have c8b0 : decide (0 < (rd l1 x8_1)) = true := decide_eq_true c8
              clear c8
              by_cases c9 : x8_1 < (l2.length : Int)
              · rw [if_pos c9] at H
                have c9b0 : decide (x8_1 < (l2.length : Int)) = true := decide_eq_true c9
                clear c9
                have H' := Aside0.mk H
                clear H
                have p337 : 0 ≤ (x8_1 : Int) := of_decide_eq_true (by first | (with_reducible assumption) | assumption)
                have q337 : x8_1 < (l1.length : Int) := of_decide_eq_true (by first | (with_reducible assumption) | assumption)
                obtain ⟨ad337, e337, hx337_0⟩ := Kd.at_int HR1.out x8_1 p337 q337
                cases e337
                replace p337 := eq_true p337
                replace q337 := eq_true q337
                have p338 : 0 ≤ (x8_1 : Int) := of_decide_eq_true (by first | (with_reducible assumption) | assumption)
                have q338 : x8_1 < (l2.length : Int) := of_decide_eq_true (by first | (with_reducible assumption) | assumption)
                obtain ⟨ad338, e338, hx338_0⟩ := Kd.at_int HR2.out x8_1 p338 q338
                cases e338
                replace p338 := eq_true p338
                replace q338 := eq_true q338
                go_wp2
                go_roundg k1
                case measure => have := HK1.out; omega
                case rel => exact ⟨(wrap64 (x7_1 + (rd l2 x8_1))), (wrap64 (x8_1 + 1)), (by first | rfl | (simp; done) | (simp [*]; done)), (by first | rfl | (simp; done) | (simp [*]; done)), H', ⟨by have := HK1.out; omega⟩, by repeat (first | exact Drawn0.refl _ | apply Drawn0.step)⟩
              · rw [if_neg c9] at H
                exact absurd H (by simp)
            · rw [if_neg c8] at H
              have c8b0 : decide (0 < (rd l1 x8_1)) = false := decide_eq_false c8
              clear c8
              have H' := Aside0.mk H
              clear H
              have p337 : 0 ≤ (x8_1 : Int) := of_decide_eq_true (by first | (with_reducible assumption) | assumption)
              have q337 : x8_1 < (l1.length : Int) := of_decide_eq_true (by first | (with_reducible assumption) | assumption)
              obtain ⟨ad337, e337, hx337_0⟩ := Kd.at_int HR1.out x8_1 p337 q337
              cases e337
              replace p337 := eq_true p337
              replace q337 := eq_true q337
              go_wp2
              go_roundg k1
              case measure => have := HK1.out; omega
              case rel => exact ⟨(x7_1), (wrap64 (x8_1 + 1)), (by first | rfl | (simp; done) | (simp [*]; done)), (by first | rfl | (simp; done) | (simp [*]; done)), H', ⟨by have := HK1.out; omega⟩, by repeat (first | exact Drawn0.refl _ | apply Drawn0.step)⟩
          · rw [if_neg c7] at H
            exact absurd H (by simp)
        · rw [if_neg c6] at H
          have c6b0 : decide (x8_1 < (l1.length : Int)) = false := decide_eq_false c6
          clear c6
          by_cases c10 : a0 < x7_1
          · rw [if_pos c10] at H
            have c10b0 : decide (a0 < x7_1) = true := decide_eq_true c10
            clear c10
            obtain rfl := Option.some.inj H
            go_wp2
            go_ret
            exact ⟨by first | rfl | (simp; done) | (simp [*]; done), by repeat (first | exact Drawn0.refl _ | apply Drawn0.step)⟩
          · rw [if_neg c10] at H
            have c10b0 : decide (a0 < x7_1) = false := decide_eq_false c10
            clear c10
            obtain rfl := Option.some.inj H
            go_wp2
            go_ret
            exact ⟨by first | rfl | (simp; done) | (simp [*]; done), by repeat (first | exact Drawn0.refl _ | apply Drawn0.step)⟩
  · replace c5 := Bool.eq_false_iff.mpr c5
    subst c5
    have H1 : (some (-1)) = some r := by rw [if_neg (show ¬ (false = true) by decide)] at H; exact H
    clear H
    have H := H1
    clear H1
    obtain rfl := Option.some.inj H
    go_enter Try.func15, Try.ntmps15
    go_wp2_with (first | ((with_reducible refine gate_callee (f := 20) rfl ?_); refine goesL_ (some 12) rfl rfl Try.func20 (by kernel_rfl) rfl #[.int .i64 a0, .slice A1 l1.length c1, .slice A2 l2.length c2] rfl (by (try simp only [List.map_toArray, List.map_cons, List.map_nil]); first | done | rfl | (simp only [List.length_drop, List.length_take]; rfl)) ?_; (with_reducible refine (spec_l6Right.calls k a0 _ _ l1 _ _ l2 false _ ?side1 ?side2 ?side3 ?side4 A4.out).mono ?_); (case side1 => repeat (first | exact HR1.out | (with_reducible refine Kd.C_alloc ?_ _) | (with_reducible refine Kd.C_drewN ?_ _) | (with_reducible refine Kd.C_drew ?_))); (case side2 => exact HC1.out); (case side3 => repeat (first | exact HR2.out | (with_reducible refine Kd.C_alloc ?_ _) | (with_reducible refine Kd.C_drewN ?_ _) | (with_reducible refine Kd.C_drew ?_))); (case side4 => exact HC2.out); rintro e w' ⟨rfl, ⟨nd, rfl⟩⟩; refine ⟨_, rfl, ?_⟩))
    go_ret
    exact ⟨by first | rfl | (simp; done) | (simp [*]; done), by repeat (first | exact Drawn0.refl _ | apply Drawn0.step)⟩

end Go.Proofs.Yteilcchcekmooaa.G

/- PDivA -/
/-
  Shares: when the arguments of a division are right; the total.
-/
namespace Go.Proofs.Yteilcchcekmooaa.G
open Go.RowKit Go.Proofs.YteilcchcekmooaaW.PrintWords Go.Proofs.YteilcchcekmooaaW.PrintLast Go.Proofs.YteilcchcekmooaaW.PrintMore
set_option linter.unusedVariables false
set_option linter.unusedSimpArgs false
/-! ### lists told by their places -/
def mapR (N : Nat) (f : Nat → Int) : List Int := (List.range N).map f
def mapB (N : Nat) (f : Nat → Bool) : List Bool := (List.range N).map f
theorem mapR_len (N : Nat) (f : Nat → Int) : (mapR N f).length = N := by simp [mapR]
theorem mapB_len (N : Nat) (f : Nat → Bool) : (mapB N f).length = N := by simp [mapB]
theorem mapR_rd {N : Nat} (f : Nat → Int) {i : Nat} (h : i < N) : rd (mapR N f) (i : Int) = f i := by
  unfold rd mapR
  rw [Int.toNat_natCast, List.getD_eq_getElem?_getD, List.getElem?_eq_getElem (by simpa using h)]
  simp
theorem mapB_rd {N : Nat} (f : Nat → Bool) {i : Nat} (h : i < N) : rdOf false (mapB N f) (i : Int) = f i := by
  unfold rdOf mapB
  rw [Int.toNat_natCast, List.getD_eq_getElem?_getD, List.getElem?_eq_getElem (by simpa using h)]
  simp
theorem mapR_congr {N : Nat} {f g : Nat → Int} (h : ∀ i, i < N → f i = g i) : mapR N f = mapR N g := List.map_congr_left (fun i hi => h i (List.mem_range.1 hi))
theorem mapB_congr {N : Nat} {f g : Nat → Bool} (h : ∀ i, i < N → f i = g i) : mapB N f = mapB N g := List.map_congr_left (fun i hi => h i (List.mem_range.1 hi))
theorem mapR_set {N : Nat} (f : Nat → Int) (i : Nat) (v : Int) : (mapR N f).set i v = mapR N (fun j => if j = i then v else f j) := by
  apply List.ext_getElem
  · simp [mapR]
  · intro j h1 h2
    rw [List.getElem_set]
    simp only [mapR, List.getElem_map, List.getElem_range]
    by_cases e : i = j
    · subst e; simp
    · rw [if_neg e, if_neg (fun h => e h.symm)]
theorem mapB_set {N : Nat} (f : Nat → Bool) (i : Nat) (v : Bool) : (mapB N f).set i v = mapB N (fun j => if j = i then v else f j) := by
  apply List.ext_getElem
  · simp [mapB]
  · intro j h1 h2
    rw [List.getElem_set]
    simp only [mapB, List.getElem_map, List.getElem_range]
    by_cases e : i = j
    · subst e; simp
    · rw [if_neg e, if_neg (fun h => e h.symm)]
theorem mapR_repl (N : Nat) : List.replicate N 0 = mapR N (fun _ => 0) := by
  apply List.ext_getElem <;> simp [mapR]
theorem mapB_repl (N : Nat) : List.replicate N false = mapB N (fun _ => false) := by
  apply List.ext_getElem <;> simp [mapB]
def sumR (f : Nat → Int) : Nat → Int
  | 0 => 0
  | k + 1 => sumR f k + f k
theorem sumR_congr {f g : Nat → Int} : ∀ {n : Nat}, (∀ i, i < n → f i = g i) → sumR f n = sumR g n
  | 0, _ => rfl
  | n + 1, h => by rw [sumR, sumR, sumR_congr (fun i hi => h i (by omega)), h n (by omega)]
theorem sumR_add (f g : Nat → Int) : ∀ n, sumR (fun i => f i + g i) n = sumR f n + sumR g n
  | 0 => rfl
  | n + 1 => by rw [sumR, sumR, sumR, sumR_add f g n]; omega
theorem sumR_le {f g : Nat → Int} : ∀ {n : Nat}, (∀ i, i < n → f i ≤ g i) → sumR f n ≤ sumR g n
  | 0, _ => Int.le_refl _
  | n + 1, h => by
    rw [sumR, sumR]
    have := sumR_le (f := f) (g := g) (n := n) (fun i hi => h i (by omega))
    have := h n (by omega)
    omega
theorem sumR_zero : ∀ n, sumR (fun _ => 0) n = 0
  | 0 => rfl
  | n + 1 => by rw [sumR, sumR_zero n]; rfl
theorem sumR_nonneg {f : Nat → Int} {n : Nat} (h : ∀ i, i < n → 0 ≤ f i) : 0 ≤ sumR f n := by
  have := sumR_le (f := fun _ => 0) (g := f) h
  rwa [sumR_zero] at this
/-- One of them is more than 0. -/
theorem sumR_pos {f : Nat → Int} : ∀ {n : Nat}, (∀ i, i < n → 0 ≤ f i) → ∀ i, i < n → 0 < f i → 0 < sumR f n
  | n + 1, h, i, hi, hp => by
    rw [sumR]
    by_cases e : i = n
    · subst e
      have := sumR_nonneg (f := f) (n := i) (fun j hj => h j (by omega))
      omega
    · have := sumR_pos (f := f) (n := n) (fun j hj => h j (by omega)) i (by omega) hp
      have := h n (by omega)
      omega
/-! ### right arguments -/
structure ShOk (n : Int) (ws cs : List Int) : Prop where
  n0 : 0 ≤ n
  n1 : n ≤ 10000
  l1 : ws.length ≤ 64
  l2 : cs.length = ws.length
  w : ∀ i : Nat, i < ws.length → 0 ≤ rd ws (i : Int) ∧ rd ws (i : Int) ≤ 1000
  c : ∀ i : Nat, i < ws.length → 0 ≤ rd cs (i : Int) ∧ rd cs (i : Int) ≤ 10000
def shOk (n : Int) (ws cs : List Int) : Bool := decide (0 ≤ n) && decide (n ≤ 10000) && decide (ws.length ≤ 64) && decide (cs.length = ws.length) && allN ws.length (fun i => decide (0 ≤ rd ws (i : Int)) && decide (rd ws (i : Int) ≤ 1000)) && allN ws.length (fun i => decide (0 ≤ rd cs (i : Int)) && decide (rd cs (i : Int) ≤ 10000))
theorem shOk_iff {n : Int} {ws cs : List Int} : shOk n ws cs = true ↔ ShOk n ws cs := by
  unfold shOk
  simp only [Bool.and_eq_true, decide_eq_true_eq, allN_true]
  exact ⟨fun h => ⟨h.1.1.1.1.1, h.1.1.1.1.2, h.1.1.1.2, h.1.1.2, h.1.2, h.2⟩, fun h => ⟨⟨⟨⟨⟨h.n0, h.n1⟩, h.l1⟩, h.l2⟩, h.w⟩, h.c⟩⟩
theorem rd_cons (x : Int) (xs : List Int) (k : Nat) : rd (x :: xs) ((k + 1 : Nat) : Int) = rd xs (k : Int) := by unfold rd; rw [Int.toNat_natCast, Int.toNat_natCast]; rfl
theorem idxO_all (p : Int → Bool) (f : Int → Option Bool) (hf : ∀ x, f x = some (p x)) : ∀ (l : List Int) (s : Nat), ∃ i, idxO f l s = some i ∧ (0 ≤ i ↔ ∃ k : Nat, k < l.length ∧ p (rd l (k : Int)) = true)
  | [], s => ⟨-1, by rw [idxO], by simp⟩
  | x :: xs, s => by
    rw [idxO, hf x]
    simp only [Option.bind_some]
    cases hp : p x with
    | true => exact ⟨s, by simp, ⟨fun _ => ⟨0, by simp, by simpa [rd] using hp⟩, fun _ => by omega⟩⟩
    | false =>
      obtain ⟨i, hi, hh⟩ := idxO_all p f hf xs (s + 1)
      refine ⟨i, by simpa using hi, hh.trans ⟨fun ⟨k, hk, h⟩ => ⟨k + 1, by simp; omega, by rw [rd_cons]; exact h⟩, fun ⟨k, hk, h⟩ => ?_⟩⟩
      cases k with
      | zero =>
        have : rd (x :: xs) ((0 : Nat) : Int) = x := rfl
        rw [this, hp] at h; cases h
      | succ k => exact ⟨k, by simpa using hk, by rw [← rd_cons x]; exact h⟩
theorem within_eq (a b c : Int) : impl_within.f a b c = some (decide (b ≤ a) && decide (a ≤ c)) := by
  unfold impl_within.f
  by_cases h : a ≥ b
  · rw [if_pos h, decide_eq_true h, Bool.true_and]
  · rw [if_neg h, decide_eq_false (by omega), Bool.false_and]
theorem l1In_eq (a b c : Int) : spec_l1In.f a b c = some (decide (b ≤ a) && decide (a ≤ c)) := by
  unfold spec_l1In.f
  by_cases h : a ≥ b
  · rw [if_pos h, decide_eq_true h, Bool.true_and]
  · rw [if_neg h, decide_eq_false (by omega), Bool.false_and]
theorem sharesOk_eq (n : Int) (ws cs : List Int) : impl_sharesOk.f n ws cs = some (shOk n ws cs) := by
  unfold impl_sharesOk.f
  rw [within_eq]
  simp only [Option.bind_some]
  unfold shOk
  by_cases h1 : (decide (0 ≤ n) && decide (n ≤ 10000)) = true
  · rw [if_pos h1, h1]
    by_cases h2 : (ws.length : Int) ≤ 64
    · rw [if_pos h2, decide_eq_true (by omega : ws.length ≤ 64)]
      by_cases h3 : (cs.length : Int) = (ws.length : Int)
      · rw [if_pos h3, decide_eq_true (by omega : cs.length = ws.length)]
        unfold impl_sharesOk_h32.f impl_sharesOk_h33.f
        obtain ⟨i, hi, hh⟩ := idxO_all (fun x => !(decide (0 ≤ x) && decide (x ≤ 1000))) (fun x => impl_sharesOk_1.f x) (fun x => by unfold impl_sharesOk_1.f; rw [within_eq]; rfl) ws 0
        obtain ⟨j, hj, hh2⟩ := idxO_all (fun x => !(decide (0 ≤ x) && decide (x ≤ 10000))) (fun x => impl_sharesOk_2.f x) (fun x => by unfold impl_sharesOk_2.f; rw [within_eq]; rfl) cs 0
        rw [hi, hj]
        simp only [Option.bind_some, decide_eq_true_eq]
        by_cases c1 : 0 ≤ i
        · rw [if_pos c1]
          obtain ⟨k, hk, hp⟩ := hh.1 c1
          have : allN ws.length (fun i => decide (0 ≤ rd ws (i : Int)) && decide (rd ws (i : Int) ≤ 1000)) = false := by
            rw [← Bool.not_eq_true, allN_true]
            intro h
            rw [h k hk] at hp
            cases hp
          rw [this]; rfl
        · rw [if_neg c1]
          have e1 : allN ws.length (fun i => decide (0 ≤ rd ws (i : Int)) && decide (rd ws (i : Int) ≤ 1000)) = true := allN_true.2 (fun k hk => by
            cases hc : (decide (0 ≤ rd ws (k : Int)) && decide (rd ws (k : Int) ≤ 1000)) with
            | true => rfl
            | false => exact absurd (hh.2 ⟨k, hk, by rw [hc]; rfl⟩) c1)
          rw [e1]
          by_cases c2 : 0 ≤ j
          · obtain ⟨k, hk, hp⟩ := hh2.1 c2
            have : allN ws.length (fun i => decide (0 ≤ rd cs (i : Int)) && decide (rd cs (i : Int) ≤ 10000)) = false := by
              rw [← Bool.not_eq_true, allN_true]
              intro h
              rw [h k (by omega)] at hp
              cases hp
            rw [this, decide_eq_true c2]; rfl
          · have e2 : allN ws.length (fun i => decide (0 ≤ rd cs (i : Int)) && decide (rd cs (i : Int) ≤ 10000)) = true := allN_true.2 (fun k hk => by
              cases hc : (decide (0 ≤ rd cs (k : Int)) && decide (rd cs (k : Int) ≤ 10000)) with
              | true => rfl
              | false => exact absurd (hh2.2 ⟨k, by omega, by rw [hc]; rfl⟩) c2)
            rw [e2, decide_eq_false c2]; rfl
      · rw [if_neg h3, decide_eq_false (by omega : ¬ cs.length = ws.length)]; simp
    · rw [if_neg h2, decide_eq_false (by omega : ¬ ws.length ≤ 64)]; simp
  · rw [if_neg h1]
    rw [Bool.not_eq_true] at h1
    rw [h1]; simp
theorem l6Right_ev (n : Int) (ws cs : List Int) : Ev (fun k => spec_l6Right.f k n ws cs) (shOk n ws cs) := by
  unfold spec_l6Right.f
  simp only [l1In_eq, Option.bind_some]
  have no : ∀ {g : Nat → Option Bool}, shOk n ws cs = false → Ev (fun k => spec_l6Right.j0 k ws cs true) (shOk n ws cs) := fun h => by
    rw [h]; exact Ev.step (fun k => by rw [spec_l6Right.j0]) (ev_if_pos rfl (ev_some rfl))
  by_cases h1 : (decide (0 ≤ n) && decide (n ≤ 10000)) = true
  · refine ev_if_pos h1 ?_
    have h1' : 0 ≤ n ∧ n ≤ 10000 := by simpa using h1
    by_cases h2 : (ws.length : Int) > 64
    · refine ev_if_pos h2 (no (g := fun _ => none) ?_)
      rw [← Bool.not_eq_true, shOk_iff]
      intro h; have := h.l1; omega
    · refine ev_if_neg h2 ?_
      by_cases h3 : cs.length = ws.length
      · rw [show ((ws.length : Int) != (cs.length : Int)) = false by rw [h3]; simp]
        refine Ev.step (fun k => by rw [spec_l6Right.j0]) (ev_if_neg (by simp) ?_)
        have e : shOk n ws cs = (allN ws.length (fun i => (decide (0 ≤ rd ws (i : Int)) && decide (rd ws (i : Int) ≤ 1000)) && (decide (0 ≤ rd cs (i : Int)) && decide (rd cs (i : Int) ≤ 10000))) && true) := by
          rw [Bool.and_true, Bool.eq_iff_iff, shOk_iff, allN_true]
          exact ⟨fun h i hi => by have := h.w i hi; have := h.c i hi; simp; omega, fun h => ⟨h1'.1, h1'.2, by omega, h3, fun i hi => by have := h i hi; simp at this; omega, fun i hi => by have := h i hi; simp at this; omega⟩⟩
        rw [e]
        refine loop_all (g := fun k i => spec_l6Right.l0 k ws cs i) ws.length _ true (fun i hi hok r hr => ?_) (fun i hi hok => ?_) ?_
        · rw [Bool.and_eq_true] at hok
          refine Ev.step (fun k => by rw [spec_l6Right.l0]) (ev_if_pos (by omega) (ev_if_pos (by omega) ?_))
          simp only [l1In_eq, Option.bind_some]
          refine ev_if_pos hok.1 (ev_if_pos (by omega) (ev_if_pos hok.2 ?_))
          simp only [wsucc hi (by omega)]
          exact hr
        · refine Ev.step (fun k => by rw [spec_l6Right.l0]) (ev_if_pos (by omega) (ev_if_pos (by omega) ?_))
          simp only [l1In_eq, Option.bind_some]
          by_cases hc : (decide (0 ≤ rd ws (i : Int)) && decide (rd ws (i : Int) ≤ 1000)) = true
          · rw [hc, Bool.true_and] at hok
            exact ev_if_pos hc (ev_if_pos (by omega) (ev_if_neg (by rw [hok]; simp) (ev_some rfl)))
          · exact ev_if_neg hc (ev_some rfl)
        · exact Ev.step (fun k => by rw [spec_l6Right.l0]) (ev_if_neg (by omega) (ev_some rfl))
      · rw [show ((ws.length : Int) != (cs.length : Int)) = true by simp; omega]
        refine no (g := fun _ => none) ?_
        rw [← Bool.not_eq_true, shOk_iff]
        intro h; exact h3 h.l2
  · refine ev_if_neg h1 (no (g := fun _ => none) ?_)
    rw [← Bool.not_eq_true, shOk_iff]
    intro h; have := h.n0; have := h.n1; simp at h1; omega
/-! ### the total -/
def capF (ws cs : List Int) (i : Nat) : Int := if 0 < rd ws (i : Int) then rd cs (i : Int) else 0
def totI (n : Int) (ws cs : List Int) : Int := if shOk n ws cs = true then (if n < sumR (capF ws cs) ws.length then n else sumR (capF ws cs) ws.length) else -1
theorem capF_bound {n : Int} {ws cs : List Int} (h : ShOk n ws cs) : ∀ k, k ≤ ws.length → 0 ≤ sumR (capF ws cs) k ∧ sumR (capF ws cs) k ≤ 10000 * k
  | 0, _ => by simp [sumR]
  | k + 1, hk => by
    have ih := capF_bound h k (by omega)
    have hc := h.c k (by omega)
    have hf : 0 ≤ capF ws cs k ∧ capF ws cs k ≤ 10000 := by unfold capF; split <;> omega
    rw [sumR]
    omega
theorem specTotal_ev (n : Int) (ws cs : List Int) : Ev (fun k => spec_Total.f k n ws cs) (totI n ws cs) := by
  unfold spec_Total.f
  refine Ev.bind (l6Right_ev n ws cs) ?_
  unfold totI
  by_cases h : shOk n ws cs = true
  · refine ev_if_pos h ?_
    rw [if_pos h]
    have H := shOk_iff.1 h
    have key : ∀ d i, i + d = ws.length → Ev (fun k => spec_Total.l0 k n ws cs (sumR (capF ws cs) i) (i : Int)) (if n < sumR (capF ws cs) ws.length then n else sumR (capF ws cs) ws.length) := by
      intro d
      induction d with
      | zero =>
        intro i hi
        obtain rfl : i = ws.length := by omega
        refine Ev.step (fun k => by rw [spec_Total.l0]) (ev_if_neg (by omega) ?_)
        by_cases c : n < sumR (capF ws cs) ws.length
        · exact ev_rw (ev_if_pos c (ev_some rfl)) (if_pos c).symm
        · exact ev_rw (ev_if_neg c (ev_some rfl)) (if_neg c).symm
      | succ d ih =>
        intro i hi
        have hb := capF_bound H i (by omega)
        have hc := H.c i (by omega)
        have hl := H.l1
        have ih := ih (i + 1) (by omega)
        rw [sumR] at ih
        refine Ev.step (fun k => by rw [spec_Total.l0]) (ev_if_pos (by omega) (ev_if_pos (by omega) ?_))
        simp only [wsucc (show i < ws.length by omega) (by omega)]
        by_cases c : rd ws (i : Int) > 0
        · have e : capF ws cs i = rd cs (i : Int) := if_pos c
          rw [e] at ih
          refine ev_if_pos c (ev_if_pos (by have := H.l2; omega) ?_)
          simp only [w64 (x := sumR (capF ws cs) i + rd cs (i : Int)) (by omega) (by omega)]
          exact ih
        · have e : capF ws cs i = 0 := if_neg c
          rw [e, Int.add_zero] at ih
          exact ev_if_neg c ih
    exact key ws.length 0 (by omega)
  · refine ev_if_neg h ?_
    rw [if_neg h]
    exact ev_some rfl
theorem implTotal_ev (n : Int) (ws cs : List Int) : Ev (fun k => impl_Total.f k n ws cs) (totI n ws cs) := by
  unfold impl_Total.f
  simp only [sharesOk_eq, Option.bind_some]
  unfold totI
  by_cases h : shOk n ws cs = true
  · refine ev_if_pos h ?_
    rw [if_pos h]
    have H := shOk_iff.1 h
    have key : ∀ d i, i + d = ws.length → Ev (fun k => impl_Total.l0 k n cs (sumR (capF ws cs) i) ws (ws.length : Int) (i : Int)) (if n < sumR (capF ws cs) ws.length then n else sumR (capF ws cs) ws.length) := by
      intro d
      induction d with
      | zero =>
        intro i hi
        obtain rfl : i = ws.length := by omega
        refine Ev.step (fun k => by rw [impl_Total.l0]) (ev_if_neg (by omega) (ev_some ?_))
        unfold mn
        split <;> split <;> omega
      | succ d ih =>
        intro i hi
        have hb := capF_bound H i (by omega)
        have hc := H.c i (by omega)
        have hl := H.l1
        have ih := ih (i + 1) (by omega)
        rw [sumR] at ih
        refine Ev.step (fun k => by rw [impl_Total.l0]) (ev_if_pos (by omega) (ev_if_pos (by omega) (ev_if_pos (by omega) ?_)))
        simp only [wsucc (show i < ws.length by omega) (by omega)]
        by_cases c : rd ws (i : Int) > 0
        · have e : capF ws cs i = rd cs (i : Int) := if_pos c
          rw [e] at ih
          refine ev_if_pos c (ev_if_pos (by have := H.l2; omega) ?_)
          simp only [w64 (x := sumR (capF ws cs) i + rd cs (i : Int)) (by omega) (by omega)]
          exact ih
        · have e : capF ws cs i = 0 := if_neg c
          rw [e, Int.add_zero] at ih
          exact ev_if_neg c ih
    exact key ws.length 0 (by omega)
  · refine ev_if_neg h ?_
    rw [if_neg h]
    exact ev_some rfl
end Go.Proofs.Yteilcchcekmooaa.G

/- G21 -/
-- Laid by wip/g/gprint.py out of the translation, by the kit's print program. Lean checks it.
namespace Go.Proofs.Yteilcchcekmooaa.G
open Go.RowKit Go.Proofs.YteilcchcekmooaaW.PrintWords Go.Proofs.YteilcchcekmooaaW.PrintLast Go.Proofs.YteilcchcekmooaaW.PrintMore
attribute [local go_sem] max2_int min2_int max_two min_two max_three min_three max_four min_four   -- for this text's walks alone
set_option linter.unusedVariables false
set_option linter.unusedSimpArgs false

/-! ### spec_l6Wants: function 21 -/
mutual
def spec_l6Wants.l0 : Nat → Int → List Int → List Bool → Int → List Int → List Int → Int → Int → Option (List Int)
  | 0, _, _, _, _, _, _, _, _ => none
  | k + 1, x0, x1, x2, x3, x9, x10, x11, x12 => if x12 < (x1.length : Int) then (if 0 ≤ x12 then (if x12 < (x2.length : Int) then (if rdOf false x2 x12 = true then (if x3 = 0 then (none) else (if x12 < (x9.length : Int) then ((some (x9.set (x12 : Int).toNat (wrap64 (Int.tdiv (wrap64 (x0 * (rd x1 x12))) x3)) : List Int)).bind fun y114 => (if x12 < (x10.length : Int) then (spec_l6Wants.l0 k x0 x1 x2 x3 y114 (x10.set (x12 : Int).toNat (Int.tmod (wrap64 (x0 * (rd x1 x12))) x3)) (wrap64 (x11 - (rd y114 x12))) (wrap64 (x12 + 1))) else (none))) else (none))) else (spec_l6Wants.l0 k x0 x1 x2 x3 x9 x10 x11 (wrap64 (x12 + 1)))) else (none)) else (none)) else (spec_l6Wants.l1 k x1 x2 x9 x10 x11)
def spec_l6Wants.l1 : Nat → List Int → List Bool → List Int → List Int → Int → Option (List Int)
  | 0, _, _, _, _, _ => none
  | k + 1, x1, x2, x9, x10, x11 => if x11 > 0 then (spec_l6Wants.l2 k x1 x2 x9 x10 x11 (-1) 0) else (some x9)
def spec_l6Wants.l2 : Nat → List Int → List Bool → List Int → List Int → Int → Int → Int → Option (List Int)
  | 0, _, _, _, _, _, _, _ => none
  | k + 1, x1, x2, x9, x10, x11, x13, x14 => if x14 < (x1.length : Int) then (if 0 ≤ x14 then (if x14 < (x2.length : Int) then (if rdOf false x2 x14 = true then (if x13 < 0 then (spec_l6Wants.l2 k x1 x2 x9 x10 x11 x14 (wrap64 (x14 + 1))) else (if x14 < (x10.length : Int) then (if 0 ≤ x13 then (if x13 < (x10.length : Int) then (if (rd x10 x14) > (rd x10 x13) then (spec_l6Wants.l2 k x1 x2 x9 x10 x11 x14 (wrap64 (x14 + 1))) else (spec_l6Wants.l2 k x1 x2 x9 x10 x11 x13 (wrap64 (x14 + 1)))) else (none)) else (none)) else (none))) else (spec_l6Wants.l2 k x1 x2 x9 x10 x11 x13 (wrap64 (x14 + 1)))) else (none)) else (none)) else (if 0 ≤ x13 then (if x13 < (x9.length : Int) then (if x13 < (x10.length : Int) then (spec_l6Wants.l1 k x1 x2 (x9.set (x13 : Int).toNat (wrap64 ((rd x9 x13) + 1))) (x10.set (x13 : Int).toNat (-1)) (wrap64 (x11 - 1))) else (none)) else (none)) else (none))
end
def spec_l6Wants.f (k : Nat) (a0 : Int) (l1 : List Int) (l2 : List Bool) (a3 : Int) : Option (List Int) := if 0 ≤ (l1.length : Int) then (if ((l1.length : Int) : Int).toNat ≤ 35184372088832 then (spec_l6Wants.l0 k a0 l1 l2 a3 (List.replicate ((l1.length : Int) : Int).toNat 0) (List.replicate ((l1.length : Int) : Int).toNat 0) a0 0) else (none)) else (none)
end Go.Proofs.Yteilcchcekmooaa.G
