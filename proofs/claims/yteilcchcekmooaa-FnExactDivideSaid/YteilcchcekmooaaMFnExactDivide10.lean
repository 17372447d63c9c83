import Derived.Test.YteilcchcekmooaaMFnExactDivide1
import Derived.Test.YteilcchcekmooaaMFnExactDivide6
import Derived.Test.YteilcchcekmooaaMFnExactDivide9
import Derived.Test.YteilcchcekmooaaMFnExactDivide8
import Derived.Test.YteilcchcekmooaaProg
import Derived.WideShapes
import Derived.KernelRfl
import Derived.Test.YteilcchcekmooaaRows
import Derived.WalkKit
import Derived.ProofKit
import Derived.OpenShut
import Derived.ShutString
import Derived.ChangeOld
import Derived.Carry
import Derived.Below
import Derived.Handed
/- G3 -/
-- Laid by wip/g/gprint.py out of the translation, by the kit's print program. Lean checks it.
namespace Go.Proofs.Yteilcchcekmooaa.G
open Go.RowKit Go.Proofs.YteilcchcekmooaaW.PrintWords Go.Proofs.YteilcchcekmooaaW.PrintLast Go.Proofs.YteilcchcekmooaaW.PrintMore
attribute [local go_sem] max2_int min2_int max_two min_two max_three min_three max_four min_four   -- for this text's walks alone
set_option linter.unusedVariables false
set_option linter.unusedSimpArgs false

/-! ### laws_FnExactDivide: function 3 -/
def laws_FnExactDivide.j0 : Nat → Int → List Int → List Int → List Int → List Int → Bool → Option (Bool)
  | 0, _, _, _, _, _, _ => none
  | k + 1, x0, x1, x2, x7, x10, x62 => if x62 = true then (some false) else ((laws_markIntS.f k x10 1).bind fun bt228 => ((laws_heldIntS.f k bt228.2 1).bind fun t230 => (if t230 < 0 then (some false) else (if t230 = bt228.1 then ((laws_toIntS.f k x1).bind fun t231 => ((laws_toIntS.f k x2).bind fun t234 => ((impl_Divide.f k x0 t231 t234).bind fun t237 => ((laws_eqIntS.f k t237 x7).bind fun t240 => (if t240 = true then ((laws_heldIntS.f k bt228.2 1).bind fun t241 => (if t241 < 0 then (some false) else (if t241 = bt228.1 then (some true) else (some false)))) else (some false)))))) else (some false)))))
def laws_FnExactDivide.f (k : Nat) (a0 : Int) (l1 : List Int) (l2 : List Int) : Option (Bool) := if (l1.length : Int) > 1048576 then (some true) else (if (l2.length : Int) > 1048576 then (some true) else ((laws_toIntS.f k l1).bind fun t196 => ((laws_toIntS.f k l2).bind fun t199 => ((spec_Divide.f k a0 t196 t199).bind fun t202 => ((laws_toIntS.f k l1).bind fun t205 => ((laws_toIntS.f k l2).bind fun t208 => ((impl_Divide.f k a0 t205 t208).bind fun t211 => ((laws_eqIntS.f k t211 t202).bind fun t214 => (if t214 = true then ((laws_toIntS.f k l1).bind fun t215 => ((laws_eqIntS.f k t205 t215).bind fun t218 => (if t218 = true then ((laws_toIntS.f k l2).bind fun t219 => ((laws_eqIntS.f k t208 t219).bind fun t222 => (if t222 = true then ((laws_markIntS.f k t205 1).bind fun bt223 => ((laws_markIntS.f k t208 bt223.1).bind fun bt225 => (if bt225.1 < 0 then (laws_FnExactDivide.j0 k a0 l1 l2 t202 t211 true) else ((laws_eqIntS.f k t211 t202).bind fun t227 => (laws_FnExactDivide.j0 k a0 l1 l2 t202 t211 (!t227)))))) else (some false)))) else (some false)))) else (some false))))))))))
set_option maxHeartbeats 8000000 in
set_option maxRecDepth 100000 in
theorem laws_FnExactDivide.calls (k : Nat) (a0 : Int) (A1 : Option Addr) (c1 : Nat) (l1 : List Int) (A2 : Option Addr) (c2 : Nat) (l2 : List Int) (r : Bool) (hrt_ : r = true) (w : World) (hr1 : Kd.C (Kd.int .i64) w A1 l1.length l1) (hc1 : l1.length ≤ c1) (hr2 : Kd.C (Kd.int .i64) w A2 l2.length l2) (hc2 : l2.length ≤ c2) (h : laws_FnExactDivide.f k a0 l1 l2 = some r) :
    Calls Try.prog 3 #[.int .i64 a0, .slice A1 l1.length c1, .slice A2 l2.length c2] w fun e w' => e = .returned (.bool r) ∧ Below w.heap.size w w' := by
  have HR1 := Aside0.mk hr1
  have HC1 := Aside0.mk hc1
  clear hr1 hc1
  have HR2 := Aside0.mk hr2
  have HC2 := Aside0.mk hc2
  clear hr2 hc2
  have HB := Aside0.mk (Below.refl w.heap.size w)
  have H : (if (l1.length : Int) > 1048576 then (some true) else (if (l2.length : Int) > 1048576 then (some true) else ((laws_toIntS.f k l1).bind fun t196 => ((laws_toIntS.f k l2).bind fun t199 => ((spec_Divide.f k a0 t196 t199).bind fun t202 => ((laws_toIntS.f k l1).bind fun t205 => ((laws_toIntS.f k l2).bind fun t208 => ((impl_Divide.f k a0 t205 t208).bind fun t211 => ((laws_eqIntS.f k t211 t202).bind fun t214 => (if t214 = true then ((laws_toIntS.f k l1).bind fun t215 => ((laws_eqIntS.f k t205 t215).bind fun t218 => (if t218 = true then ((laws_toIntS.f k l2).bind fun t219 => ((laws_eqIntS.f k t208 t219).bind fun t222 => (if t222 = true then ((laws_markIntS.f k t205 1).bind fun bt223 => ((laws_markIntS.f k t208 bt223.1).bind fun bt225 => (if bt225.1 < 0 then (laws_FnExactDivide.j0 k a0 l1 l2 t202 t211 true) else ((laws_eqIntS.f k t211 t202).bind fun t227 => (laws_FnExactDivide.j0 k a0 l1 l2 t202 t211 (!t227)))))) else (some false)))) else (some false)))) else (some false))))))))))) = some r := h
  clear h
  by_cases c4 : (l1.length : Int) > 1048576
  · rw [if_pos c4] at H
    have c4b0 : decide (1048576 < (l1.length : Int)) = true := decide_eq_true c4
    have c4b1 : decide (1048576 < l1.length) = true := decide_eq_true (by omega)
    clear c4
    obtain rfl := Option.some.inj H
    go_enter Try.func3, Try.ntmps3
    go_wp2
    go_ret
    exact ⟨by first | rfl | (simp [errW_none, errW_some] <;> rfl) | (simp [*, errW_none, errW_some] <;> rfl), by repeat (first | (with_reducible first | exact HB.out | apply below_alloc | apply pw_below_drewN | apply below_drew1) | exact HB.out)⟩
  · rw [if_neg c4] at H
    have c4b0 : decide (1048576 < (l1.length : Int)) = false := decide_eq_false c4
    have c4b1 : decide (1048576 < l1.length) = false := decide_eq_false (by omega)
    clear c4
    by_cases c5 : (l2.length : Int) > 1048576
    · rw [if_pos c5] at H
      have c5b0 : decide (1048576 < (l2.length : Int)) = true := decide_eq_true c5
      have c5b1 : decide (1048576 < l2.length) = true := decide_eq_true (by omega)
      clear c5
      obtain rfl := Option.some.inj H
      go_enter Try.func3, Try.ntmps3
      go_wp2
      go_ret
      exact ⟨by first | rfl | (simp [errW_none, errW_some] <;> rfl) | (simp [*, errW_none, errW_some] <;> rfl), by repeat (first | (with_reducible first | exact HB.out | apply below_alloc | apply pw_below_drewN | apply below_drew1) | exact HB.out)⟩
    · rw [if_neg c5] at H
      have c5b0 : decide (1048576 < (l2.length : Int)) = false := decide_eq_false c5
      have c5b1 : decide (1048576 < l2.length) = false := decide_eq_false (by omega)
      clear c5
      replace H := Option.bind_eq_some_iff.mp H
      obtain ⟨t196, A60, H⟩ := H
      replace H : ((laws_toIntS.f k l2).bind fun t199 => ((spec_Divide.f k a0 t196 t199).bind fun t202 => ((laws_toIntS.f k l1).bind fun t205 => ((laws_toIntS.f k l2).bind fun t208 => ((impl_Divide.f k a0 t205 t208).bind fun t211 => ((laws_eqIntS.f k t211 t202).bind fun t214 => (if t214 = true then ((laws_toIntS.f k l1).bind fun t215 => ((laws_eqIntS.f k t205 t215).bind fun t218 => (if t218 = true then ((laws_toIntS.f k l2).bind fun t219 => ((laws_eqIntS.f k t208 t219).bind fun t222 => (if t222 = true then ((laws_markIntS.f k t205 1).bind fun bt223 => ((laws_markIntS.f k t208 bt223.1).bind fun bt225 => (if bt225.1 < 0 then (laws_FnExactDivide.j0 k a0 l1 l2 t202 t211 true) else ((laws_eqIntS.f k t211 t202).bind fun t227 => (laws_FnExactDivide.j0 k a0 l1 l2 t202 t211 (!t227)))))) else (some false)))) else (some false)))) else (some false)))))))) = some r := H
      have A6 := Aside0.mk A60
      clear A60
      replace H := Option.bind_eq_some_iff.mp H
      obtain ⟨t199, A70, H⟩ := H
      replace H : ((spec_Divide.f k a0 t196 t199).bind fun t202 => ((laws_toIntS.f k l1).bind fun t205 => ((laws_toIntS.f k l2).bind fun t208 => ((impl_Divide.f k a0 t205 t208).bind fun t211 => ((laws_eqIntS.f k t211 t202).bind fun t214 => (if t214 = true then ((laws_toIntS.f k l1).bind fun t215 => ((laws_eqIntS.f k t205 t215).bind fun t218 => (if t218 = true then ((laws_toIntS.f k l2).bind fun t219 => ((laws_eqIntS.f k t208 t219).bind fun t222 => (if t222 = true then ((laws_markIntS.f k t205 1).bind fun bt223 => ((laws_markIntS.f k t208 bt223.1).bind fun bt225 => (if bt225.1 < 0 then (laws_FnExactDivide.j0 k a0 l1 l2 t202 t211 true) else ((laws_eqIntS.f k t211 t202).bind fun t227 => (laws_FnExactDivide.j0 k a0 l1 l2 t202 t211 (!t227)))))) else (some false)))) else (some false)))) else (some false))))))) = some r := H
      have A7 := Aside0.mk A70
      clear A70
      replace H := Option.bind_eq_some_iff.mp H
      obtain ⟨t202, A80, H⟩ := H
      replace H : ((laws_toIntS.f k l1).bind fun t205 => ((laws_toIntS.f k l2).bind fun t208 => ((impl_Divide.f k a0 t205 t208).bind fun t211 => ((laws_eqIntS.f k t211 t202).bind fun t214 => (if t214 = true then ((laws_toIntS.f k l1).bind fun t215 => ((laws_eqIntS.f k t205 t215).bind fun t218 => (if t218 = true then ((laws_toIntS.f k l2).bind fun t219 => ((laws_eqIntS.f k t208 t219).bind fun t222 => (if t222 = true then ((laws_markIntS.f k t205 1).bind fun bt223 => ((laws_markIntS.f k t208 bt223.1).bind fun bt225 => (if bt225.1 < 0 then (laws_FnExactDivide.j0 k a0 l1 l2 t202 t211 true) else ((laws_eqIntS.f k t211 t202).bind fun t227 => (laws_FnExactDivide.j0 k a0 l1 l2 t202 t211 (!t227)))))) else (some false)))) else (some false)))) else (some false)))))) = some r := H
      have A8 := Aside0.mk A80
      clear A80
      replace H := Option.bind_eq_some_iff.mp H
      obtain ⟨t205, A90, H⟩ := H
      replace H : ((laws_toIntS.f k l2).bind fun t208 => ((impl_Divide.f k a0 t205 t208).bind fun t211 => ((laws_eqIntS.f k t211 t202).bind fun t214 => (if t214 = true then ((laws_toIntS.f k l1).bind fun t215 => ((laws_eqIntS.f k t205 t215).bind fun t218 => (if t218 = true then ((laws_toIntS.f k l2).bind fun t219 => ((laws_eqIntS.f k t208 t219).bind fun t222 => (if t222 = true then ((laws_markIntS.f k t205 1).bind fun bt223 => ((laws_markIntS.f k t208 bt223.1).bind fun bt225 => (if bt225.1 < 0 then (laws_FnExactDivide.j0 k a0 l1 l2 t202 t211 true) else ((laws_eqIntS.f k t211 t202).bind fun t227 => (laws_FnExactDivide.j0 k a0 l1 l2 t202 t211 (!t227)))))) else (some false)))) else (some false)))) else (some false))))) = some r := H
      have A9 := Aside0.mk A90
      clear A90
      replace H := Option.bind_eq_some_iff.mp H
      obtain ⟨t208, A100, H⟩ := H
      replace H : ((impl_Divide.f k a0 t205 t208).bind fun t211 => ((laws_eqIntS.f k t211 t202).bind fun t214 => (if t214 = true then ((laws_toIntS.f k l1).bind fun t215 => ((laws_eqIntS.f k t205 t215).bind fun t218 => (if t218 = true then ((laws_toIntS.f k l2).bind fun t219 => ((laws_eqIntS.f k t208 t219).bind fun t222 => (if t222 = true then ((laws_markIntS.f k t205 1).bind fun bt223 => ((laws_markIntS.f k t208 bt223.1).bind fun bt225 => (if bt225.1 < 0 then (laws_FnExactDivide.j0 k a0 l1 l2 t202 t211 true) else ((laws_eqIntS.f k t211 t202).bind fun t227 => (laws_FnExactDivide.j0 k a0 l1 l2 t202 t211 (!t227)))))) else (some false)))) else (some false)))) else (some false)))) = some r := H
      have A10 := Aside0.mk A100
      clear A100
      replace H := Option.bind_eq_some_iff.mp H
      obtain ⟨t211, A110, H⟩ := H
      replace H : ((laws_eqIntS.f k t211 t202).bind fun t214 => (if t214 = true then ((laws_toIntS.f k l1).bind fun t215 => ((laws_eqIntS.f k t205 t215).bind fun t218 => (if t218 = true then ((laws_toIntS.f k l2).bind fun t219 => ((laws_eqIntS.f k t208 t219).bind fun t222 => (if t222 = true then ((laws_markIntS.f k t205 1).bind fun bt223 => ((laws_markIntS.f k t208 bt223.1).bind fun bt225 => (if bt225.1 < 0 then (laws_FnExactDivide.j0 k a0 l1 l2 t202 t211 true) else ((laws_eqIntS.f k t211 t202).bind fun t227 => (laws_FnExactDivide.j0 k a0 l1 l2 t202 t211 (!t227)))))) else (some false)))) else (some false)))) else (some false))) = some r := H
      have A11 := Aside0.mk A110
      clear A110
      replace H := Option.bind_eq_some_iff.mp H
      obtain ⟨t214, A120, H⟩ := H
      replace H : (if t214 = true then ((laws_toIntS.f k l1).bind fun t215 => ((laws_eqIntS.f k t205 t215).bind fun t218 => (if t218 = true then ((laws_toIntS.f k l2).bind fun t219 => ((laws_eqIntS.f k t208 t219).bind fun t222 => (if t222 = true then ((laws_markIntS.f k t205 1).bind fun bt223 => ((laws_markIntS.f k t208 bt223.1).bind fun bt225 => (if bt225.1 < 0 then (laws_FnExactDivide.j0 k a0 l1 l2 t202 t211 true) else ((laws_eqIntS.f k t211 t202).bind fun t227 => (laws_FnExactDivide.j0 k a0 l1 l2 t202 t211 (!t227)))))) else (some false)))) else (some false)))) else (some false)) = some r := H
      have A12 := Aside0.mk A120
      clear A120
      by_cases c13 : t214 = true
      · subst c13
        have H1 : ((laws_toIntS.f k l1).bind fun t215 => ((laws_eqIntS.f k t205 t215).bind fun t218 => (if t218 = true then ((laws_toIntS.f k l2).bind fun t219 => ((laws_eqIntS.f k t208 t219).bind fun t222 => (if t222 = true then ((laws_markIntS.f k t205 1).bind fun bt223 => ((laws_markIntS.f k t208 bt223.1).bind fun bt225 => (if bt225.1 < 0 then (laws_FnExactDivide.j0 k a0 l1 l2 t202 t211 true) else ((laws_eqIntS.f k t211 t202).bind fun t227 => (laws_FnExactDivide.j0 k a0 l1 l2 t202 t211 (!t227)))))) else (some false)))) else (some false)))) = some r := by rw [if_pos rfl] at H; exact H
        clear H
        have H := H1
        clear H1
        replace H := Option.bind_eq_some_iff.mp H
        obtain ⟨t215, A140, H⟩ := H
        replace H : ((laws_eqIntS.f k t205 t215).bind fun t218 => (if t218 = true then ((laws_toIntS.f k l2).bind fun t219 => ((laws_eqIntS.f k t208 t219).bind fun t222 => (if t222 = true then ((laws_markIntS.f k t205 1).bind fun bt223 => ((laws_markIntS.f k t208 bt223.1).bind fun bt225 => (if bt225.1 < 0 then (laws_FnExactDivide.j0 k a0 l1 l2 t202 t211 true) else ((laws_eqIntS.f k t211 t202).bind fun t227 => (laws_FnExactDivide.j0 k a0 l1 l2 t202 t211 (!t227)))))) else (some false)))) else (some false))) = some r := H
        have A14 := Aside0.mk A140
        clear A140
        replace H := Option.bind_eq_some_iff.mp H
        obtain ⟨t218, A150, H⟩ := H
        replace H : (if t218 = true then ((laws_toIntS.f k l2).bind fun t219 => ((laws_eqIntS.f k t208 t219).bind fun t222 => (if t222 = true then ((laws_markIntS.f k t205 1).bind fun bt223 => ((laws_markIntS.f k t208 bt223.1).bind fun bt225 => (if bt225.1 < 0 then (laws_FnExactDivide.j0 k a0 l1 l2 t202 t211 true) else ((laws_eqIntS.f k t211 t202).bind fun t227 => (laws_FnExactDivide.j0 k a0 l1 l2 t202 t211 (!t227)))))) else (some false)))) else (some false)) = some r := H
        have A15 := Aside0.mk A150
        clear A150
        by_cases c16 : t218 = true
        · subst c16
          have H1 : ((laws_toIntS.f k l2).bind fun t219 => ((laws_eqIntS.f k t208 t219).bind fun t222 => (if t222 = true then ((laws_markIntS.f k t205 1).bind fun bt223 => ((laws_markIntS.f k t208 bt223.1).bind fun bt225 => (if bt225.1 < 0 then (laws_FnExactDivide.j0 k a0 l1 l2 t202 t211 true) else ((laws_eqIntS.f k t211 t202).bind fun t227 => (laws_FnExactDivide.j0 k a0 l1 l2 t202 t211 (!t227)))))) else (some false)))) = some r := by rw [if_pos rfl] at H; exact H
          clear H
          have H := H1
          clear H1
          replace H := Option.bind_eq_some_iff.mp H
          obtain ⟨t219, A170, H⟩ := H
          replace H : ((laws_eqIntS.f k t208 t219).bind fun t222 => (if t222 = true then ((laws_markIntS.f k t205 1).bind fun bt223 => ((laws_markIntS.f k t208 bt223.1).bind fun bt225 => (if bt225.1 < 0 then (laws_FnExactDivide.j0 k a0 l1 l2 t202 t211 true) else ((laws_eqIntS.f k t211 t202).bind fun t227 => (laws_FnExactDivide.j0 k a0 l1 l2 t202 t211 (!t227)))))) else (some false))) = some r := H
          have A17 := Aside0.mk A170
          clear A170
          replace H := Option.bind_eq_some_iff.mp H
          obtain ⟨t222, A180, H⟩ := H
          replace H : (if t222 = true then ((laws_markIntS.f k t205 1).bind fun bt223 => ((laws_markIntS.f k t208 bt223.1).bind fun bt225 => (if bt225.1 < 0 then (laws_FnExactDivide.j0 k a0 l1 l2 t202 t211 true) else ((laws_eqIntS.f k t211 t202).bind fun t227 => (laws_FnExactDivide.j0 k a0 l1 l2 t202 t211 (!t227)))))) else (some false)) = some r := H
          have A18 := Aside0.mk A180
          clear A180
          by_cases c19 : t222 = true
          · subst c19
            have H1 : ((laws_markIntS.f k t205 1).bind fun bt223 => ((laws_markIntS.f k t208 bt223.1).bind fun bt225 => (if bt225.1 < 0 then (laws_FnExactDivide.j0 k a0 l1 l2 t202 t211 true) else ((laws_eqIntS.f k t211 t202).bind fun t227 => (laws_FnExactDivide.j0 k a0 l1 l2 t202 t211 (!t227)))))) = some r := by rw [if_pos rfl] at H; exact H
            clear H
            have H := H1
            clear H1
            replace H := Option.bind_eq_some_iff.mp H
            obtain ⟨⟨t223, t224⟩, A200, H⟩ := H
            replace H : ((laws_markIntS.f k t208 t223).bind fun bt225 => (if bt225.1 < 0 then (laws_FnExactDivide.j0 k a0 l1 l2 t202 t211 true) else ((laws_eqIntS.f k t211 t202).bind fun t227 => (laws_FnExactDivide.j0 k a0 l1 l2 t202 t211 (!t227))))) = some r := H
            have A20 := Aside0.mk A200
            clear A200
            replace H := Option.bind_eq_some_iff.mp H
            obtain ⟨⟨t225, t226⟩, A210, H⟩ := H
            replace H : (if t225 < 0 then (laws_FnExactDivide.j0 k a0 l1 l2 t202 t211 true) else ((laws_eqIntS.f k t211 t202).bind fun t227 => (laws_FnExactDivide.j0 k a0 l1 l2 t202 t211 (!t227)))) = some r := H
            have A21 := Aside0.mk A210
            clear A210
            have HC22 := Aside0.mk H
            clear H
            go_enter Try.func3, Try.ntmps3
            go_upto_region 18 with (first | ((with_reducible refine gate_callee (f := 7) rfl ?_); refine goesL_ (some 23) rfl rfl Try.func7 (by kernel_rfl) rfl #[.slice A1 l1.length c1] rfl (by (try simp only [List.map_toArray, List.map_cons, List.map_nil]); first | done | rfl | (simp only [List.length_drop, List.length_take]; rfl)) ?_; (with_reducible refine (laws_toIntS.calls k _ _ l1 t196 _ ?side1 ?side2 A6.out).mono ?_); (case side1 => repeat (first | exact HR1.out | (with_reducible refine Kd.C_alloc ?_ _) | (with_reducible refine Kd.C_drewN ?_ _) | (with_reducible refine Kd.C_drew ?_))); (case side2 => exact HC1.out); rintro e w23 ⟨v197, rfl, ho0, hb⟩; refine ⟨_, rfl, ?_⟩; have n0_ := Aside0.mk (Kd.R_lower ho0 (below_size (by repeat (first | (with_reducible first | exact HB.out | apply below_alloc | apply pw_below_drewN | apply below_drew1) | exact HB.out)))); have n1_ := Aside0.mk (below_step (by repeat (first | (with_reducible first | exact HB.out | apply below_alloc | apply pw_below_drewN | apply below_drew1) | exact HB.out)) hb); clear HB; have HO198 := n0_; have HB := n1_; clear n0_ n1_; (try clear hb); (try clear hb2); (try clear hk); (try clear hi); (try clear ho0)) | ((with_reducible refine gate_callee (f := 7) rfl ?_); refine goesL_ (some 25) rfl rfl Try.func7 (by kernel_rfl) rfl #[.slice A2 l2.length c2] rfl (by (try simp only [List.map_toArray, List.map_cons, List.map_nil]); first | done | rfl | (simp only [List.length_drop, List.length_take]; rfl)) ?_; (with_reducible refine (laws_toIntS.calls k _ _ l2 t199 _ ?side1 ?side2 A7.out).mono ?_); (case side1 => repeat (first | exact (Kd.C_below HR2.out HB.out) | (with_reducible refine Kd.C_alloc ?_ _) | (with_reducible refine Kd.C_drewN ?_ _) | (with_reducible refine Kd.C_drew ?_))); (case side2 => exact HC2.out); rintro e w24 ⟨v200, rfl, ho0, hb⟩; refine ⟨_, rfl, ?_⟩; have n0_ := Aside0.mk (Kd.R_elder' (by (with_reducible repeat (first | apply Kd.R_alloc | apply Kd.R_drewN | apply Kd.R_drew)); exact HO198.out) (Kd.R_base ho0) hb); have n1_ := Aside0.mk (Kd.R_lower (Kd.R_new' ho0 (Kd.R_lt (by (with_reducible repeat (first | apply Kd.R_alloc | apply Kd.R_drewN | apply Kd.R_drew)); exact HO198.out))) (below_size (by repeat (first | (with_reducible first | exact HB.out | apply below_alloc | apply pw_below_drewN | apply below_drew1) | exact HB.out)))); have n2_ := Aside0.mk (below_step (by repeat (first | (with_reducible first | exact HB.out | apply below_alloc | apply pw_below_drewN | apply below_drew1) | exact HB.out)) hb); clear HO198; clear HB; have HO198 := n0_; have HO201 := n1_; have HB := n2_; clear n0_ n1_ n2_; (try clear hb); (try clear hb2); (try clear hk); (try clear hi); (try clear ho0); obtain ⟨Ao25, co25, eo25⟩ := Kd.R_slice HO198.out; subst eo25; obtain ⟨Ao26, co26, eo26⟩ := Kd.R_slice HO201.out; subst eo26) | ((with_reducible refine gate_callee (f := 6) rfl ?_); refine goesL_ (some 26) rfl rfl Try.func6 (by kernel_rfl) rfl #[.int .i64 a0, .slice Ao25 t196.length co25, .slice Ao26 t199.length co26] rfl (by (try simp only [List.map_toArray, List.map_cons, List.map_nil]); first | done | rfl | (simp only [List.length_drop, List.length_take]; rfl)) ?_; (with_reducible refine (spec_Divide.calls k a0 _ _ t196 _ _ t199 t202 _ ?side1 ?side2 ?side3 ?side4 A8.out).mono ?_); (case side1 => repeat (first | exact (Kd.R_reads' HO198.out).2.2 | (with_reducible refine Kd.C_alloc ?_ _) | (with_reducible refine Kd.C_drewN ?_ _) | (with_reducible refine Kd.C_drew ?_))); (case side2 => exact (Kd.R_reads' HO198.out).2.1); (case side3 => repeat (first | exact (Kd.R_reads' HO201.out).2.2 | (with_reducible refine Kd.C_alloc ?_ _) | (with_reducible refine Kd.C_drewN ?_ _) | (with_reducible refine Kd.C_drew ?_))); (case side4 => exact (Kd.R_reads' HO201.out).2.1); rintro e w27 ⟨v203, rfl, ho0, hb⟩; refine ⟨_, rfl, ?_⟩; have n0_ := Aside0.mk (Kd.R_elder' (by (with_reducible repeat (first | apply Kd.R_alloc | apply Kd.R_drewN | apply Kd.R_drew)); exact HO198.out) (Kd.R_base ho0) hb); have n1_ := Aside0.mk (Kd.R_elder' (by (with_reducible repeat (first | apply Kd.R_alloc | apply Kd.R_drewN | apply Kd.R_drew)); exact HO201.out) (Kd.R_base ho0) hb); have n2_ := Aside0.mk (Kd.R_lower (Kd.R_new' (Kd.R_new' ho0 (Kd.R_lt (by (with_reducible repeat (first | apply Kd.R_alloc | apply Kd.R_drewN | apply Kd.R_drew)); exact HO198.out))) (Kd.R_lt (by (with_reducible repeat (first | apply Kd.R_alloc | apply Kd.R_drewN | apply Kd.R_drew)); exact HO201.out))) (below_size (by repeat (first | (with_reducible first | exact HB.out | apply below_alloc | apply pw_below_drewN | apply below_drew1) | exact HB.out)))); have n3_ := Aside0.mk (below_step (by repeat (first | (with_reducible first | exact HB.out | apply below_alloc | apply pw_below_drewN | apply below_drew1) | exact HB.out)) hb); clear HO198; clear HO201; clear HB; have HO198 := n0_; have HO201 := n1_; have HO204 := n2_; have HB := n3_; clear n0_ n1_ n2_ n3_; (try clear hb); (try clear hb2); (try clear hk); (try clear hi); (try clear ho0)) | ((with_reducible refine gate_callee (f := 7) rfl ?_); refine goesL_ (some 28) rfl rfl Try.func7 (by kernel_rfl) rfl #[.slice A1 l1.length c1] rfl (by (try simp only [List.map_toArray, List.map_cons, List.map_nil]); first | done | rfl | (simp only [List.length_drop, List.length_take]; rfl)) ?_; (with_reducible refine (laws_toIntS.calls k _ _ l1 t205 _ ?side1 ?side2 A9.out).mono ?_); (case side1 => repeat (first | exact (Kd.C_below HR1.out HB.out) | (with_reducible refine Kd.C_alloc ?_ _) | (with_reducible refine Kd.C_drewN ?_ _) | (with_reducible refine Kd.C_drew ?_))); (case side2 => exact HC1.out); rintro e w28 ⟨v206, rfl, ho0, hb⟩; refine ⟨_, rfl, ?_⟩; have n0_ := Aside0.mk (Kd.R_elder' (by (with_reducible repeat (first | apply Kd.R_alloc | apply Kd.R_drewN | apply Kd.R_drew)); exact HO198.out) (Kd.R_base ho0) hb); have n1_ := Aside0.mk (Kd.R_elder' (by (with_reducible repeat (first | apply Kd.R_alloc | apply Kd.R_drewN | apply Kd.R_drew)); exact HO201.out) (Kd.R_base ho0) hb); have n2_ := Aside0.mk (Kd.R_elder' (by (with_reducible repeat (first | apply Kd.R_alloc | apply Kd.R_drewN | apply Kd.R_drew)); exact HO204.out) (Kd.R_base ho0) hb); have n3_ := Aside0.mk (Kd.R_lower (Kd.R_new' (Kd.R_new' (Kd.R_new' ho0 (Kd.R_lt (by (with_reducible repeat (first | apply Kd.R_alloc | apply Kd.R_drewN | apply Kd.R_drew)); exact HO198.out))) (Kd.R_lt (by (with_reducible repeat (first | apply Kd.R_alloc | apply Kd.R_drewN | apply Kd.R_drew)); exact HO201.out))) (Kd.R_lt (by (with_reducible repeat (first | apply Kd.R_alloc | apply Kd.R_drewN | apply Kd.R_drew)); exact HO204.out))) (below_size (by repeat (first | (with_reducible first | exact HB.out | apply below_alloc | apply pw_below_drewN | apply below_drew1) | exact HB.out)))); have n4_ := Aside0.mk (below_step (by repeat (first | (with_reducible first | exact HB.out | apply below_alloc | apply pw_below_drewN | apply below_drew1) | exact HB.out)) hb); clear HO198; clear HO201; clear HO204; clear HB; have HO198 := n0_; have HO201 := n1_; have HO204 := n2_; have HO207 := n3_; have HB := n4_; clear n0_ n1_ n2_ n3_ n4_; (try clear hb); (try clear hb2); (try clear hk); (try clear hi); (try clear ho0)) | ((with_reducible refine gate_callee (f := 7) rfl ?_); refine goesL_ (some 30) rfl rfl Try.func7 (by kernel_rfl) rfl #[.slice A2 l2.length c2] rfl (by (try simp only [List.map_toArray, List.map_cons, List.map_nil]); first | done | rfl | (simp only [List.length_drop, List.length_take]; rfl)) ?_; (with_reducible refine (laws_toIntS.calls k _ _ l2 t208 _ ?side1 ?side2 A10.out).mono ?_); (case side1 => repeat (first | exact (Kd.C_below HR2.out HB.out) | (with_reducible refine Kd.C_alloc ?_ _) | (with_reducible refine Kd.C_drewN ?_ _) | (with_reducible refine Kd.C_drew ?_))); (case side2 => exact HC2.out); rintro e w29 ⟨v209, rfl, ho0, hb⟩; refine ⟨_, rfl, ?_⟩; have n0_ := Aside0.mk (Kd.R_elder' (by (with_reducible repeat (first | apply Kd.R_alloc | apply Kd.R_drewN | apply Kd.R_drew)); exact HO198.out) (Kd.R_base ho0) hb); have n1_ := Aside0.mk (Kd.R_elder' (by (with_reducible repeat (first | apply Kd.R_alloc | apply Kd.R_drewN | apply Kd.R_drew)); exact HO201.out) (Kd.R_base ho0) hb); have n2_ := Aside0.mk (Kd.R_elder' (by (with_reducible repeat (first | apply Kd.R_alloc | apply Kd.R_drewN | apply Kd.R_drew)); exact HO204.out) (Kd.R_base ho0) hb); have n3_ := Aside0.mk (Kd.R_elder' (by (with_reducible repeat (first | apply Kd.R_alloc | apply Kd.R_drewN | apply Kd.R_drew)); exact HO207.out) (Kd.R_base ho0) hb); have n4_ := Aside0.mk (Kd.R_lower (Kd.R_new' (Kd.R_new' (Kd.R_new' (Kd.R_new' ho0 (Kd.R_lt (by (with_reducible repeat (first | apply Kd.R_alloc | apply Kd.R_drewN | apply Kd.R_drew)); exact HO198.out))) (Kd.R_lt (by (with_reducible repeat (first | apply Kd.R_alloc | apply Kd.R_drewN | apply Kd.R_drew)); exact HO201.out))) (Kd.R_lt (by (with_reducible repeat (first | apply Kd.R_alloc | apply Kd.R_drewN | apply Kd.R_drew)); exact HO204.out))) (Kd.R_lt (by (with_reducible repeat (first | apply Kd.R_alloc | apply Kd.R_drewN | apply Kd.R_drew)); exact HO207.out))) (below_size (by repeat (first | (with_reducible first | exact HB.out | apply below_alloc | apply pw_below_drewN | apply below_drew1) | exact HB.out)))); have n5_ := Aside0.mk (below_step (by repeat (first | (with_reducible first | exact HB.out | apply below_alloc | apply pw_below_drewN | apply below_drew1) | exact HB.out)) hb); clear HO198; clear HO201; clear HO204; clear HO207; clear HB; have HO198 := n0_; have HO201 := n1_; have HO204 := n2_; have HO207 := n3_; have HO210 := n4_; have HB := n5_; clear n0_ n1_ n2_ n3_ n4_ n5_; (try clear hb); (try clear hb2); (try clear hk); (try clear hi); (try clear ho0); obtain ⟨Ao30, co30, eo30⟩ := Kd.R_slice HO207.out; subst eo30; obtain ⟨Ao31, co31, eo31⟩ := Kd.R_slice HO210.out; subst eo31) | ((with_reducible refine gate_callee (f := 8) rfl ?_); refine goesL_ (some 34) rfl rfl Try.func8 (by kernel_rfl) rfl #[.int .i64 a0, .slice Ao30 t205.length co30, .slice Ao31 t208.length co31] rfl (by (try simp only [List.map_toArray, List.map_cons, List.map_nil]); first | done | rfl | (simp only [List.length_drop, List.length_take]; rfl)) ?_; (with_reducible refine (impl_Divide.calls k a0 _ _ t205 _ _ t208 t211 _ ?side1 ?side2 ?side3 ?side4 A11.out).mono ?_); (case side1 => repeat (first | exact (Kd.R_reads' HO207.out).2.2 | (with_reducible refine Kd.C_alloc ?_ _) | (with_reducible refine Kd.C_drewN ?_ _) | (with_reducible refine Kd.C_drew ?_))); (case side2 => exact (Kd.R_reads' HO207.out).2.1); (case side3 => repeat (first | exact (Kd.R_reads' HO210.out).2.2 | (with_reducible refine Kd.C_alloc ?_ _) | (with_reducible refine Kd.C_drewN ?_ _) | (with_reducible refine Kd.C_drew ?_))); (case side4 => exact (Kd.R_reads' HO210.out).2.1); rintro e w32 ⟨v212, rfl, ho0, hb⟩; refine ⟨_, rfl, ?_⟩; have n0_ := Aside0.mk (Kd.R_elder' (by (with_reducible repeat (first | apply Kd.R_alloc | apply Kd.R_drewN | apply Kd.R_drew)); exact HO198.out) (Kd.R_base ho0) hb); have n1_ := Aside0.mk (Kd.R_elder' (by (with_reducible repeat (first | apply Kd.R_alloc | apply Kd.R_drewN | apply Kd.R_drew)); exact HO201.out) (Kd.R_base ho0) hb); have n2_ := Aside0.mk (Kd.R_elder' (by (with_reducible repeat (first | apply Kd.R_alloc | apply Kd.R_drewN | apply Kd.R_drew)); exact HO204.out) (Kd.R_base ho0) hb); have n3_ := Aside0.mk (Kd.R_elder' (by (with_reducible repeat (first | apply Kd.R_alloc | apply Kd.R_drewN | apply Kd.R_drew)); exact HO207.out) (Kd.R_base ho0) hb); have n4_ := Aside0.mk (Kd.R_elder' (by (with_reducible repeat (first | apply Kd.R_alloc | apply Kd.R_drewN | apply Kd.R_drew)); exact HO210.out) (Kd.R_base ho0) hb); have n5_ := Aside0.mk (Kd.R_lower (Kd.R_new' (Kd.R_new' (Kd.R_new' (Kd.R_new' (Kd.R_new' ho0 (Kd.R_lt (by (with_reducible repeat (first | apply Kd.R_alloc | apply Kd.R_drewN | apply Kd.R_drew)); exact HO198.out))) (Kd.R_lt (by (with_reducible repeat (first | apply Kd.R_alloc | apply Kd.R_drewN | apply Kd.R_drew)); exact HO201.out))) (Kd.R_lt (by (with_reducible repeat (first | apply Kd.R_alloc | apply Kd.R_drewN | apply Kd.R_drew)); exact HO204.out))) (Kd.R_lt (by (with_reducible repeat (first | apply Kd.R_alloc | apply Kd.R_drewN | apply Kd.R_drew)); exact HO207.out))) (Kd.R_lt (by (with_reducible repeat (first | apply Kd.R_alloc | apply Kd.R_drewN | apply Kd.R_drew)); exact HO210.out))) (below_size (by repeat (first | (with_reducible first | exact HB.out | apply below_alloc | apply pw_below_drewN | apply below_drew1) | exact HB.out)))); have n6_ := Aside0.mk (below_step (by repeat (first | (with_reducible first | exact HB.out | apply below_alloc | apply pw_below_drewN | apply below_drew1) | exact HB.out)) hb); clear HO198; clear HO201; clear HO204; clear HO207; clear HO210; clear HB; have HO198 := n0_; have HO201 := n1_; have HO204 := n2_; have HO207 := n3_; have HO210 := n4_; have HO213 := n5_; have HB := n6_; clear n0_ n1_ n2_ n3_ n4_ n5_ n6_; (try clear hb); (try clear hb2); (try clear hk); (try clear hi); (try clear ho0); obtain ⟨Ao33, co33, eo33⟩ := Kd.R_slice HO213.out; subst eo33; obtain ⟨Ao34, co34, eo34⟩ := Kd.R_slice HO204.out; subst eo34) | ((with_reducible refine gate_callee (f := 9) rfl ?_); refine goesL_ (some 37) rfl rfl Try.func9 (by kernel_rfl) rfl #[.slice Ao33 t211.length co33, .slice Ao34 t202.length co34] rfl (by (try simp only [List.map_toArray, List.map_cons, List.map_nil]); first | done | rfl | (simp only [List.length_drop, List.length_take]; rfl)) ?_; (with_reducible refine (laws_eqIntS.calls k _ _ t211 _ _ t202 true _ ?side1 ?side2 ?side3 ?side4 A12.out).mono ?_); (case side1 => repeat (first | exact (Kd.R_reads' HO213.out).2.2 | (with_reducible refine Kd.C_alloc ?_ _) | (with_reducible refine Kd.C_drewN ?_ _) | (with_reducible refine Kd.C_drew ?_))); (case side2 => exact (Kd.R_reads' HO213.out).2.1); (case side3 => repeat (first | exact (Kd.R_reads' HO204.out).2.2 | (with_reducible refine Kd.C_alloc ?_ _) | (with_reducible refine Kd.C_drewN ?_ _) | (with_reducible refine Kd.C_drew ?_))); (case side4 => exact (Kd.R_reads' HO204.out).2.1); rintro e w' ⟨rfl, ⟨nd, rfl⟩⟩; refine ⟨_, rfl, ?_⟩) | ((with_reducible refine gate_callee (f := 7) rfl ?_); refine goesL_ (some 41) rfl rfl Try.func7 (by kernel_rfl) rfl #[.slice A1 l1.length c1] rfl (by (try simp only [List.map_toArray, List.map_cons, List.map_nil]); first | done | rfl | (simp only [List.length_drop, List.length_take]; rfl)) ?_; (with_reducible refine (laws_toIntS.calls k _ _ l1 t215 _ ?side1 ?side2 A14.out).mono ?_); (case side1 => repeat (first | exact (Kd.C_below HR1.out (by repeat (first | (with_reducible first | exact HB.out | apply below_alloc | apply pw_below_drewN | apply below_drew1) | exact HB.out))) | (with_reducible refine Kd.C_alloc ?_ _) | (with_reducible refine Kd.C_drewN ?_ _) | (with_reducible refine Kd.C_drew ?_))); (case side2 => exact HC1.out); rintro e w35 ⟨v216, rfl, ho0, hb⟩; refine ⟨_, rfl, ?_⟩; have n0_ := Aside0.mk (Kd.R_elder' (by (with_reducible repeat (first | apply Kd.R_alloc | apply Kd.R_drewN | apply Kd.R_drew)); exact HO198.out) (Kd.R_base ho0) hb); have n1_ := Aside0.mk (Kd.R_elder' (by (with_reducible repeat (first | apply Kd.R_alloc | apply Kd.R_drewN | apply Kd.R_drew)); exact HO201.out) (Kd.R_base ho0) hb); have n2_ := Aside0.mk (Kd.R_elder' (by (with_reducible repeat (first | apply Kd.R_alloc | apply Kd.R_drewN | apply Kd.R_drew)); exact HO204.out) (Kd.R_base ho0) hb); have n3_ := Aside0.mk (Kd.R_elder' (by (with_reducible repeat (first | apply Kd.R_alloc | apply Kd.R_drewN | apply Kd.R_drew)); exact HO207.out) (Kd.R_base ho0) hb); have n4_ := Aside0.mk (Kd.R_elder' (by (with_reducible repeat (first | apply Kd.R_alloc | apply Kd.R_drewN | apply Kd.R_drew)); exact HO210.out) (Kd.R_base ho0) hb); have n5_ := Aside0.mk (Kd.R_elder' (by (with_reducible repeat (first | apply Kd.R_alloc | apply Kd.R_drewN | apply Kd.R_drew)); exact HO213.out) (Kd.R_base ho0) hb); have n6_ := Aside0.mk (Kd.R_lower (Kd.R_new' (Kd.R_new' (Kd.R_new' (Kd.R_new' (Kd.R_new' (Kd.R_new' ho0 (Kd.R_lt (by (with_reducible repeat (first | apply Kd.R_alloc | apply Kd.R_drewN | apply Kd.R_drew)); exact HO198.out))) (Kd.R_lt (by (with_reducible repeat (first | apply Kd.R_alloc | apply Kd.R_drewN | apply Kd.R_drew)); exact HO201.out))) (Kd.R_lt (by (with_reducible repeat (first | apply Kd.R_alloc | apply Kd.R_drewN | apply Kd.R_drew)); exact HO204.out))) (Kd.R_lt (by (with_reducible repeat (first | apply Kd.R_alloc | apply Kd.R_drewN | apply Kd.R_drew)); exact HO207.out))) (Kd.R_lt (by (with_reducible repeat (first | apply Kd.R_alloc | apply Kd.R_drewN | apply Kd.R_drew)); exact HO210.out))) (Kd.R_lt (by (with_reducible repeat (first | apply Kd.R_alloc | apply Kd.R_drewN | apply Kd.R_drew)); exact HO213.out))) (below_size (by repeat (first | (with_reducible first | exact HB.out | apply below_alloc | apply pw_below_drewN | apply below_drew1) | exact HB.out)))); have n7_ := Aside0.mk (below_step (by repeat (first | (with_reducible first | exact HB.out | apply below_alloc | apply pw_below_drewN | apply below_drew1) | exact HB.out)) hb); clear HO198; clear HO201; clear HO204; clear HO207; clear HO210; clear HO213; clear HB; have HO198 := n0_; have HO201 := n1_; have HO204 := n2_; have HO207 := n3_; have HO210 := n4_; have HO213 := n5_; have HO217 := n6_; have HB := n7_; clear n0_ n1_ n2_ n3_ n4_ n5_ n6_ n7_; (try clear hb); (try clear hb2); (try clear hk); (try clear hi); (try clear ho0); obtain ⟨Ao36, co36, eo36⟩ := Kd.R_slice HO217.out; subst eo36) | ((with_reducible refine gate_callee (f := 9) rfl ?_); refine goesL_ (some 42) rfl rfl Try.func9 (by kernel_rfl) rfl #[.slice Ao30 t205.length co30, .slice Ao36 t215.length co36] rfl (by (try simp only [List.map_toArray, List.map_cons, List.map_nil]); first | done | rfl | (simp only [List.length_drop, List.length_take]; rfl)) ?_; (with_reducible refine (laws_eqIntS.calls k _ _ t205 _ _ t215 true _ ?side1 ?side2 ?side3 ?side4 A15.out).mono ?_); (case side1 => repeat (first | exact (Kd.R_reads' HO207.out).2.2 | (with_reducible refine Kd.C_alloc ?_ _) | (with_reducible refine Kd.C_drewN ?_ _) | (with_reducible refine Kd.C_drew ?_))); (case side2 => exact (Kd.R_reads' HO207.out).2.1); (case side3 => repeat (first | exact (Kd.R_reads' HO217.out).2.2 | (with_reducible refine Kd.C_alloc ?_ _) | (with_reducible refine Kd.C_drewN ?_ _) | (with_reducible refine Kd.C_drew ?_))); (case side4 => exact (Kd.R_reads' HO217.out).2.1); rintro e w' ⟨rfl, ⟨nd, rfl⟩⟩; refine ⟨_, rfl, ?_⟩) | ((with_reducible refine gate_callee (f := 7) rfl ?_); refine goesL_ (some 46) rfl rfl Try.func7 (by kernel_rfl) rfl #[.slice A2 l2.length c2] rfl (by (try simp only [List.map_toArray, List.map_cons, List.map_nil]); first | done | rfl | (simp only [List.length_drop, List.length_take]; rfl)) ?_; (with_reducible refine (laws_toIntS.calls k _ _ l2 t219 _ ?side1 ?side2 A17.out).mono ?_); (case side1 => repeat (first | exact (Kd.C_below HR2.out (by repeat (first | (with_reducible first | exact HB.out | apply below_alloc | apply pw_below_drewN | apply below_drew1) | exact HB.out))) | (with_reducible refine Kd.C_alloc ?_ _) | (with_reducible refine Kd.C_drewN ?_ _) | (with_reducible refine Kd.C_drew ?_))); (case side2 => exact HC2.out); rintro e w37 ⟨v220, rfl, ho0, hb⟩; refine ⟨_, rfl, ?_⟩; have n0_ := Aside0.mk (Kd.R_elder' (by (with_reducible repeat (first | apply Kd.R_alloc | apply Kd.R_drewN | apply Kd.R_drew)); exact HO198.out) (Kd.R_base ho0) hb); have n1_ := Aside0.mk (Kd.R_elder' (by (with_reducible repeat (first | apply Kd.R_alloc | apply Kd.R_drewN | apply Kd.R_drew)); exact HO201.out) (Kd.R_base ho0) hb); have n2_ := Aside0.mk (Kd.R_elder' (by (with_reducible repeat (first | apply Kd.R_alloc | apply Kd.R_drewN | apply Kd.R_drew)); exact HO204.out) (Kd.R_base ho0) hb); have n3_ := Aside0.mk (Kd.R_elder' (by (with_reducible repeat (first | apply Kd.R_alloc | apply Kd.R_drewN | apply Kd.R_drew)); exact HO207.out) (Kd.R_base ho0) hb); have n4_ := Aside0.mk (Kd.R_elder' (by (with_reducible repeat (first | apply Kd.R_alloc | apply Kd.R_drewN | apply Kd.R_drew)); exact HO210.out) (Kd.R_base ho0) hb); have n5_ := Aside0.mk (Kd.R_elder' (by (with_reducible repeat (first | apply Kd.R_alloc | apply Kd.R_drewN | apply Kd.R_drew)); exact HO213.out) (Kd.R_base ho0) hb); have n6_ := Aside0.mk (Kd.R_elder' (by (with_reducible repeat (first | apply Kd.R_alloc | apply Kd.R_drewN | apply Kd.R_drew)); exact HO217.out) (Kd.R_base ho0) hb); have n7_ := Aside0.mk (Kd.R_lower (Kd.R_new' (Kd.R_new' (Kd.R_new' (Kd.R_new' (Kd.R_new' (Kd.R_new' (Kd.R_new' ho0 (Kd.R_lt (by (with_reducible repeat (first | apply Kd.R_alloc | apply Kd.R_drewN | apply Kd.R_drew)); exact HO198.out))) (Kd.R_lt (by (with_reducible repeat (first | apply Kd.R_alloc | apply Kd.R_drewN | apply Kd.R_drew)); exact HO201.out))) (Kd.R_lt (by (with_reducible repeat (first | apply Kd.R_alloc | apply Kd.R_drewN | apply Kd.R_drew)); exact HO204.out))) (Kd.R_lt (by (with_reducible repeat (first | apply Kd.R_alloc | apply Kd.R_drewN | apply Kd.R_drew)); exact HO207.out))) (Kd.R_lt (by (with_reducible repeat (first | apply Kd.R_alloc | apply Kd.R_drewN | apply Kd.R_drew)); exact HO210.out))) (Kd.R_lt (by (with_reducible repeat (first | apply Kd.R_alloc | apply Kd.R_drewN | apply Kd.R_drew)); exact HO213.out))) (Kd.R_lt (by (with_reducible repeat (first | apply Kd.R_alloc | apply Kd.R_drewN | apply Kd.R_drew)); exact HO217.out))) (below_size (by repeat (first | (with_reducible first | exact HB.out | apply below_alloc | apply pw_below_drewN | apply below_drew1) | exact HB.out)))); have n8_ := Aside0.mk (below_step (by repeat (first | (with_reducible first | exact HB.out | apply below_alloc | apply pw_below_drewN | apply below_drew1) | exact HB.out)) hb); clear HO198; clear HO201; clear HO204; clear HO207; clear HO210; clear HO213; clear HO217; clear HB; have HO198 := n0_; have HO201 := n1_; have HO204 := n2_; have HO207 := n3_; have HO210 := n4_; have HO213 := n5_; have HO217 := n6_; have HO221 := n7_; have HB := n8_; clear n0_ n1_ n2_ n3_ n4_ n5_ n6_ n7_ n8_; (try clear hb); (try clear hb2); (try clear hk); (try clear hi); (try clear ho0); obtain ⟨Ao38, co38, eo38⟩ := Kd.R_slice HO221.out; subst eo38) | ((with_reducible refine gate_callee (f := 9) rfl ?_); refine goesL_ (some 47) rfl rfl Try.func9 (by kernel_rfl) rfl #[.slice Ao31 t208.length co31, .slice Ao38 t219.length co38] rfl (by (try simp only [List.map_toArray, List.map_cons, List.map_nil]); first | done | rfl | (simp only [List.length_drop, List.length_take]; rfl)) ?_; (with_reducible refine (laws_eqIntS.calls k _ _ t208 _ _ t219 true _ ?side1 ?side2 ?side3 ?side4 A18.out).mono ?_); (case side1 => repeat (first | exact (Kd.R_reads' HO210.out).2.2 | (with_reducible refine Kd.C_alloc ?_ _) | (with_reducible refine Kd.C_drewN ?_ _) | (with_reducible refine Kd.C_drew ?_))); (case side2 => exact (Kd.R_reads' HO210.out).2.1); (case side3 => repeat (first | exact (Kd.R_reads' HO221.out).2.2 | (with_reducible refine Kd.C_alloc ?_ _) | (with_reducible refine Kd.C_drewN ?_ _) | (with_reducible refine Kd.C_drew ?_))); (case side4 => exact (Kd.R_reads' HO221.out).2.1); rintro e w' ⟨rfl, ⟨nd, rfl⟩⟩; refine ⟨_, rfl, ?_⟩) | ((with_reducible refine gate_callee (f := 10) rfl ?_); refine goesL_ (some 51) rfl rfl Try.func10 (by kernel_rfl) rfl #[.slice Ao30 t205.length co30, .int .i64 1] rfl (by (try simp only [List.map_toArray, List.map_cons, List.map_nil]); first | done | rfl | (simp only [List.length_drop, List.length_take]; rfl)) ?_; (with_reducible refine (laws_markIntS.calls k (fun k_ => some k_ = (.slice Ao30 t205.length co30 : Value).ownBlock) (.slice Ao30 t205.length co30) t205 1 t223 t224 w _ ?side1 ?side2 A20.out).mono ?_); (case side1 => repeat (first | (with_reducible first | exact HB.out | apply below_alloc | apply pw_below_drewN | apply below_drew1) | exact HB.out)); (case side2 => exact Kd.R_tight rfl HO207.out); rintro e w39 ⟨rfl, hy0, hb, hkp⟩; refine ⟨_, rfl, ?_⟩; have n0_ := Aside0.mk (Kd.R_mono (ok' := fun k_ => some k_ ≠ (.slice Ao26 t199.length co26 : Value).ownBlock ∧ some k_ ≠ (.slice Ao34 t202.length co34 : Value).ownBlock ∧ some k_ ≠ (.slice Ao30 t205.length co30 : Value).ownBlock ∧ some k_ ≠ (.slice Ao31 t208.length co31 : Value).ownBlock ∧ some k_ ≠ (.slice Ao33 t211.length co33 : Value).ownBlock ∧ some k_ ≠ (.slice Ao36 t215.length co36 : Value).ownBlock ∧ some k_ ≠ (.slice Ao38 t219.length co38 : Value).ownBlock) (Kd.R_keptB (HO198.out) hkp (fun k_ hk_ hs_ => (hk_.1.1.1.1.2) hs_)) (fun k_ hk_ => ⟨hk_.1.1.1.1.1.1.1.2, hk_.1.1.1.1.1.1.2, hk_.1.1.1.1.1.2, hk_.1.1.1.1.2, hk_.1.1.1.2, hk_.1.1.2, hk_.1.2⟩)); have n1_ := Aside0.mk (Kd.R_mono (ok' := fun k_ => some k_ ≠ (.slice Ao25 t196.length co25 : Value).ownBlock ∧ some k_ ≠ (.slice Ao34 t202.length co34 : Value).ownBlock ∧ some k_ ≠ (.slice Ao30 t205.length co30 : Value).ownBlock ∧ some k_ ≠ (.slice Ao31 t208.length co31 : Value).ownBlock ∧ some k_ ≠ (.slice Ao33 t211.length co33 : Value).ownBlock ∧ some k_ ≠ (.slice Ao36 t215.length co36 : Value).ownBlock ∧ some k_ ≠ (.slice Ao38 t219.length co38 : Value).ownBlock) (Kd.R_keptB (HO201.out) hkp (fun k_ hk_ hs_ => (hk_.1.1.1.1.2) hs_)) (fun k_ hk_ => ⟨hk_.1.1.1.1.1.1.1.2, hk_.1.1.1.1.1.1.2, hk_.1.1.1.1.1.2, hk_.1.1.1.1.2, hk_.1.1.1.2, hk_.1.1.2, hk_.1.2⟩)); have n2_ := Aside0.mk (Kd.R_mono (ok' := fun k_ => some k_ ≠ (.slice Ao25 t196.length co25 : Value).ownBlock ∧ some k_ ≠ (.slice Ao26 t199.length co26 : Value).ownBlock ∧ some k_ ≠ (.slice Ao30 t205.length co30 : Value).ownBlock ∧ some k_ ≠ (.slice Ao31 t208.length co31 : Value).ownBlock ∧ some k_ ≠ (.slice Ao33 t211.length co33 : Value).ownBlock ∧ some k_ ≠ (.slice Ao36 t215.length co36 : Value).ownBlock ∧ some k_ ≠ (.slice Ao38 t219.length co38 : Value).ownBlock) (Kd.R_keptB (HO204.out) hkp (fun k_ hk_ hs_ => (hk_.1.1.1.1.2) hs_)) (fun k_ hk_ => ⟨hk_.1.1.1.1.1.1.1.2, hk_.1.1.1.1.1.1.2, hk_.1.1.1.1.1.2, hk_.1.1.1.1.2, hk_.1.1.1.2, hk_.1.1.2, hk_.1.2⟩)); have n3_ := Aside0.mk (Kd.R_reok rfl hy0 (fun k_ e_ => HO207.out.1 k_ e_)); have n4_ := Aside0.mk (Kd.R_mono (ok' := fun k_ => some k_ ≠ (.slice Ao25 t196.length co25 : Value).ownBlock ∧ some k_ ≠ (.slice Ao26 t199.length co26 : Value).ownBlock ∧ some k_ ≠ (.slice Ao34 t202.length co34 : Value).ownBlock ∧ some k_ ≠ (.slice Ao30 t205.length co30 : Value).ownBlock ∧ some k_ ≠ (.slice Ao33 t211.length co33 : Value).ownBlock ∧ some k_ ≠ (.slice Ao36 t215.length co36 : Value).ownBlock ∧ some k_ ≠ (.slice Ao38 t219.length co38 : Value).ownBlock) (Kd.R_keptB (HO210.out) hkp (fun k_ hk_ hs_ => (hk_.1.1.1.2) hs_)) (fun k_ hk_ => ⟨hk_.1.1.1.1.1.1.1.2, hk_.1.1.1.1.1.1.2, hk_.1.1.1.1.1.2, hk_.1.1.1.1.2, hk_.1.1.1.2, hk_.1.1.2, hk_.1.2⟩)); have n5_ := Aside0.mk (Kd.R_mono (ok' := fun k_ => some k_ ≠ (.slice Ao25 t196.length co25 : Value).ownBlock ∧ some k_ ≠ (.slice Ao26 t199.length co26 : Value).ownBlock ∧ some k_ ≠ (.slice Ao34 t202.length co34 : Value).ownBlock ∧ some k_ ≠ (.slice Ao30 t205.length co30 : Value).ownBlock ∧ some k_ ≠ (.slice Ao31 t208.length co31 : Value).ownBlock ∧ some k_ ≠ (.slice Ao36 t215.length co36 : Value).ownBlock ∧ some k_ ≠ (.slice Ao38 t219.length co38 : Value).ownBlock) (Kd.R_keptB (HO213.out) hkp (fun k_ hk_ hs_ => (hk_.1.1.1.2) hs_)) (fun k_ hk_ => ⟨hk_.1.1.1.1.1.1.1.2, hk_.1.1.1.1.1.1.2, hk_.1.1.1.1.1.2, hk_.1.1.1.1.2, hk_.1.1.1.2, hk_.1.1.2, hk_.1.2⟩)); have n6_ := Aside0.mk (Kd.R_mono (ok' := fun k_ => some k_ ≠ (.slice Ao25 t196.length co25 : Value).ownBlock ∧ some k_ ≠ (.slice Ao26 t199.length co26 : Value).ownBlock ∧ some k_ ≠ (.slice Ao34 t202.length co34 : Value).ownBlock ∧ some k_ ≠ (.slice Ao30 t205.length co30 : Value).ownBlock ∧ some k_ ≠ (.slice Ao31 t208.length co31 : Value).ownBlock ∧ some k_ ≠ (.slice Ao33 t211.length co33 : Value).ownBlock ∧ some k_ ≠ (.slice Ao38 t219.length co38 : Value).ownBlock) (Kd.R_keptB (HO217.out) hkp (fun k_ hk_ hs_ => (hk_.1.1.1.2) hs_)) (fun k_ hk_ => ⟨hk_.1.1.1.1.1.1.1.2, hk_.1.1.1.1.1.1.2, hk_.1.1.1.1.1.2, hk_.1.1.1.1.2, hk_.1.1.1.2, hk_.1.1.2, hk_.1.2⟩)); have n7_ := Aside0.mk (Kd.R_mono (ok' := fun k_ => some k_ ≠ (.slice Ao25 t196.length co25 : Value).ownBlock ∧ some k_ ≠ (.slice Ao26 t199.length co26 : Value).ownBlock ∧ some k_ ≠ (.slice Ao34 t202.length co34 : Value).ownBlock ∧ some k_ ≠ (.slice Ao30 t205.length co30 : Value).ownBlock ∧ some k_ ≠ (.slice Ao31 t208.length co31 : Value).ownBlock ∧ some k_ ≠ (.slice Ao33 t211.length co33 : Value).ownBlock ∧ some k_ ≠ (.slice Ao36 t215.length co36 : Value).ownBlock) (Kd.R_keptB (HO221.out) hkp (fun k_ hk_ hs_ => (hk_.1.1.1.2) hs_)) (fun k_ hk_ => ⟨hk_.1.1.1.1.1.1.1.2, hk_.1.1.1.1.1.1.2, hk_.1.1.1.1.1.2, hk_.1.1.1.1.2, hk_.1.1.1.2, hk_.1.1.2, hk_.1.2⟩)); have n8_ := Aside0.mk (hb); clear HO198; clear HO201; clear HO204; clear HO207; clear HO210; clear HO213; clear HO217; clear HO221; clear HB; have HO198 := n0_; have HO201 := n1_; have HO204 := n2_; have HO207 := n3_; have HO210 := n4_; have HO213 := n5_; have HO217 := n6_; have HO221 := n7_; have HB := n8_; clear n0_ n1_ n2_ n3_ n4_ n5_ n6_ n7_ n8_; (try clear hb); (try clear hkp); (try clear hy0)) | ((with_reducible refine gate_callee (f := 10) rfl ?_); refine goesL_ (some 54) rfl rfl Try.func10 (by kernel_rfl) rfl #[.slice Ao31 t208.length co31, .int .i64 t223] rfl (by (try simp only [List.map_toArray, List.map_cons, List.map_nil]); first | done | rfl | (simp only [List.length_drop, List.length_take]; rfl)) ?_; (with_reducible refine (laws_markIntS.calls k (fun k_ => some k_ = (.slice Ao31 t208.length co31 : Value).ownBlock) (.slice Ao31 t208.length co31) t208 t223 t225 t226 w _ ?side1 ?side2 A21.out).mono ?_); (case side1 => repeat (first | (with_reducible first | exact HB.out | apply below_alloc | apply pw_below_drewN | apply below_drew1) | exact HB.out)); (case side2 => exact Kd.R_tight rfl HO210.out); rintro e w40 ⟨rfl, hy0, hb, hkp⟩; refine ⟨_, rfl, ?_⟩; have n0_ := Aside0.mk (Kd.R_mono (ok' := fun k_ => some k_ ≠ (.slice Ao26 t199.length co26 : Value).ownBlock ∧ some k_ ≠ (.slice Ao34 t202.length co34 : Value).ownBlock ∧ some k_ ≠ (.slice Ao30 t205.length co30 : Value).ownBlock ∧ some k_ ≠ (.slice Ao31 t208.length co31 : Value).ownBlock ∧ some k_ ≠ (.slice Ao33 t211.length co33 : Value).ownBlock ∧ some k_ ≠ (.slice Ao36 t215.length co36 : Value).ownBlock ∧ some k_ ≠ (.slice Ao38 t219.length co38 : Value).ownBlock) (Kd.R_keptB (HO198.out) hkp (fun k_ hk_ hs_ => (hk_.2.2.2.1) hs_)) (fun k_ hk_ => ⟨hk_.1.1, hk_.1.2.1, hk_.1.2.2.1, hk_.1.2.2.2.1, hk_.1.2.2.2.2.1, hk_.1.2.2.2.2.2.1, hk_.1.2.2.2.2.2.2⟩)); have n1_ := Aside0.mk (Kd.R_mono (ok' := fun k_ => some k_ ≠ (.slice Ao25 t196.length co25 : Value).ownBlock ∧ some k_ ≠ (.slice Ao34 t202.length co34 : Value).ownBlock ∧ some k_ ≠ (.slice Ao30 t205.length co30 : Value).ownBlock ∧ some k_ ≠ (.slice Ao31 t208.length co31 : Value).ownBlock ∧ some k_ ≠ (.slice Ao33 t211.length co33 : Value).ownBlock ∧ some k_ ≠ (.slice Ao36 t215.length co36 : Value).ownBlock ∧ some k_ ≠ (.slice Ao38 t219.length co38 : Value).ownBlock) (Kd.R_keptB (HO201.out) hkp (fun k_ hk_ hs_ => (hk_.2.2.2.1) hs_)) (fun k_ hk_ => ⟨hk_.1.1, hk_.1.2.1, hk_.1.2.2.1, hk_.1.2.2.2.1, hk_.1.2.2.2.2.1, hk_.1.2.2.2.2.2.1, hk_.1.2.2.2.2.2.2⟩)); have n2_ := Aside0.mk (Kd.R_mono (ok' := fun k_ => some k_ ≠ (.slice Ao25 t196.length co25 : Value).ownBlock ∧ some k_ ≠ (.slice Ao26 t199.length co26 : Value).ownBlock ∧ some k_ ≠ (.slice Ao30 t205.length co30 : Value).ownBlock ∧ some k_ ≠ (.slice Ao31 t208.length co31 : Value).ownBlock ∧ some k_ ≠ (.slice Ao33 t211.length co33 : Value).ownBlock ∧ some k_ ≠ (.slice Ao36 t215.length co36 : Value).ownBlock ∧ some k_ ≠ (.slice Ao38 t219.length co38 : Value).ownBlock) (Kd.R_keptB (HO204.out) hkp (fun k_ hk_ hs_ => (hk_.2.2.2.1) hs_)) (fun k_ hk_ => ⟨hk_.1.1, hk_.1.2.1, hk_.1.2.2.1, hk_.1.2.2.2.1, hk_.1.2.2.2.2.1, hk_.1.2.2.2.2.2.1, hk_.1.2.2.2.2.2.2⟩)); have n3_ := Aside0.mk (Kd.R_mono (ok' := fun k_ => some k_ ≠ (.slice Ao25 t196.length co25 : Value).ownBlock ∧ some k_ ≠ (.slice Ao26 t199.length co26 : Value).ownBlock ∧ some k_ ≠ (.slice Ao34 t202.length co34 : Value).ownBlock ∧ some k_ ≠ (.slice Ao31 t208.length co31 : Value).ownBlock ∧ some k_ ≠ (.slice Ao33 t211.length co33 : Value).ownBlock ∧ some k_ ≠ (.slice Ao36 t215.length co36 : Value).ownBlock ∧ some k_ ≠ (.slice Ao38 t219.length co38 : Value).ownBlock) (Kd.R_keptB (HO207.out) hkp (fun k_ hk_ hs_ => (hk_.1.1.1.2) hs_)) (fun k_ hk_ => ⟨hk_.1.1.1.1.1.1.1.2, hk_.1.1.1.1.1.1.2, hk_.1.1.1.1.1.2, hk_.1.1.1.1.2, hk_.1.1.1.2, hk_.1.1.2, hk_.1.2⟩)); have n4_ := Aside0.mk (Kd.R_reok rfl hy0 (fun k_ e_ => HO210.out.1 k_ e_)); have n5_ := Aside0.mk (Kd.R_mono (ok' := fun k_ => some k_ ≠ (.slice Ao25 t196.length co25 : Value).ownBlock ∧ some k_ ≠ (.slice Ao26 t199.length co26 : Value).ownBlock ∧ some k_ ≠ (.slice Ao34 t202.length co34 : Value).ownBlock ∧ some k_ ≠ (.slice Ao30 t205.length co30 : Value).ownBlock ∧ some k_ ≠ (.slice Ao31 t208.length co31 : Value).ownBlock ∧ some k_ ≠ (.slice Ao36 t215.length co36 : Value).ownBlock ∧ some k_ ≠ (.slice Ao38 t219.length co38 : Value).ownBlock) (Kd.R_keptB (HO213.out) hkp (fun k_ hk_ hs_ => (hk_.2.2.2.2.1) hs_)) (fun k_ hk_ => ⟨hk_.1.1, hk_.1.2.1, hk_.1.2.2.1, hk_.1.2.2.2.1, hk_.1.2.2.2.2.1, hk_.1.2.2.2.2.2.1, hk_.1.2.2.2.2.2.2⟩)); have n6_ := Aside0.mk (Kd.R_mono (ok' := fun k_ => some k_ ≠ (.slice Ao25 t196.length co25 : Value).ownBlock ∧ some k_ ≠ (.slice Ao26 t199.length co26 : Value).ownBlock ∧ some k_ ≠ (.slice Ao34 t202.length co34 : Value).ownBlock ∧ some k_ ≠ (.slice Ao30 t205.length co30 : Value).ownBlock ∧ some k_ ≠ (.slice Ao31 t208.length co31 : Value).ownBlock ∧ some k_ ≠ (.slice Ao33 t211.length co33 : Value).ownBlock ∧ some k_ ≠ (.slice Ao38 t219.length co38 : Value).ownBlock) (Kd.R_keptB (HO217.out) hkp (fun k_ hk_ hs_ => (hk_.2.2.2.2.1) hs_)) (fun k_ hk_ => ⟨hk_.1.1, hk_.1.2.1, hk_.1.2.2.1, hk_.1.2.2.2.1, hk_.1.2.2.2.2.1, hk_.1.2.2.2.2.2.1, hk_.1.2.2.2.2.2.2⟩)); have n7_ := Aside0.mk (Kd.R_mono (ok' := fun k_ => some k_ ≠ (.slice Ao25 t196.length co25 : Value).ownBlock ∧ some k_ ≠ (.slice Ao26 t199.length co26 : Value).ownBlock ∧ some k_ ≠ (.slice Ao34 t202.length co34 : Value).ownBlock ∧ some k_ ≠ (.slice Ao30 t205.length co30 : Value).ownBlock ∧ some k_ ≠ (.slice Ao31 t208.length co31 : Value).ownBlock ∧ some k_ ≠ (.slice Ao33 t211.length co33 : Value).ownBlock ∧ some k_ ≠ (.slice Ao36 t215.length co36 : Value).ownBlock) (Kd.R_keptB (HO221.out) hkp (fun k_ hk_ hs_ => (hk_.2.2.2.2.1) hs_)) (fun k_ hk_ => ⟨hk_.1.1, hk_.1.2.1, hk_.1.2.2.1, hk_.1.2.2.2.1, hk_.1.2.2.2.2.1, hk_.1.2.2.2.2.2.1, hk_.1.2.2.2.2.2.2⟩)); have n8_ := Aside0.mk (hb); clear HO198; clear HO201; clear HO204; clear HO207; clear HO210; clear HO213; clear HO217; clear HO221; clear HB; have HO198 := n0_; have HO201 := n1_; have HO204 := n2_; have HO207 := n3_; have HO210 := n4_; have HO213 := n5_; have HO217 := n6_; have HO221 := n7_; have HB := n8_; clear n0_ n1_ n2_ n3_ n4_ n5_ n6_ n7_ n8_; (try clear hb); (try clear hkp); (try clear hy0)))
            (try simp only [Act.put, List.setIfInBounds_toArray, List.set_cons_zero, List.set_cons_succ])
            go_cut [62] (fun v62 wc => ∃ (kq : Nat) (x62_21 : Bool), v62 = .bool x62_21 ∧ Aside0 (laws_FnExactDivide.j0 kq a0 l1 l2 t202 t211 x62_21 = some r) ∧ Aside0 (kq ≤ k) ∧ Aside0 (Kd.R (Kd.int .i64) 3 wc w.heap.size (fun k_ => some k_ ≠ ((.slice Ao33 t211.length co33) : Value).ownBlock) (.slice Ao34 t202.length co34) t202) ∧ Aside0 (Kd.R (Kd.int .i64) 3 wc w.heap.size (fun k_ => some k_ ≠ ((.slice Ao34 t202.length co34) : Value).ownBlock) (.slice Ao33 t211.length co33) t211) ∧ Aside0 (Below w.heap.size w wc))
            case first =>
              have H := HC22.out
              clear HC22
              by_cases c41 : t225 < 0
              · rw [if_pos c41] at H
                have c41b0 : decide (t225 < 0) = true := decide_eq_true c41
                clear c41
                (first | rw [c41b0] | (simp only [i64_w, i32_w]; rw [c41b0]) | skip)
                have H' := Aside0.mk H
                clear H
                go_wp2
                go_meet
                case rel => exact ⟨_, (true), (by first | rfl | (simp; done) | (simp [*]; done)), H', ⟨by first | omega | exact Nat.le_refl _⟩, ⟨by (with_reducible repeat (first | apply Kd.R_alloc | apply Kd.R_drewN | apply Kd.R_drew)); exact Kd.R_mono HO204.out (fun _ hk => hk.2.2.2.2.1)⟩, ⟨by (with_reducible repeat (first | apply Kd.R_alloc | apply Kd.R_drewN | apply Kd.R_drew)); exact Kd.R_mono HO213.out (fun _ hk => hk.2.2.1)⟩, ⟨by repeat (first | (with_reducible first | exact HB.out | apply below_alloc | apply pw_below_drewN | apply below_drew1) | exact HB.out)⟩⟩
              · rw [if_neg c41] at H
                have c41b0 : decide (t225 < 0) = false := decide_eq_false c41
                clear c41
                (first | rw [c41b0] | (simp only [i64_w, i32_w]; rw [c41b0]) | skip)
                replace H := Option.bind_eq_some_iff.mp H
                obtain ⟨t227, A420, H⟩ := H
                replace H : (laws_FnExactDivide.j0 k a0 l1 l2 t202 t211 (!t227)) = some r := H
                have A42 := Aside0.mk A420
                clear A420
                have H' := Aside0.mk H
                clear H
                go_wp2_with (first | (go_at_call 9; (with_reducible refine (laws_eqIntS.calls k _ _ t211 _ _ t202 t227 _ ?side1 ?side2 ?side3 ?side4 A42.out).mono ?_); (case side1 => repeat (first | exact (Kd.R_reads' HO213.out).2.2 | (with_reducible refine Kd.C_alloc ?_ _) | (with_reducible refine Kd.C_drewN ?_ _) | (with_reducible refine Kd.C_drew ?_))); (case side2 => exact (Kd.R_reads' HO213.out).2.1); (case side3 => repeat (first | exact (Kd.R_reads' HO204.out).2.2 | (with_reducible refine Kd.C_alloc ?_ _) | (with_reducible refine Kd.C_drewN ?_ _) | (with_reducible refine Kd.C_drew ?_))); (case side4 => exact (Kd.R_reads' HO204.out).2.1); rintro e w' ⟨rfl, ⟨nd, rfl⟩⟩))
                go_meet
                case rel => exact ⟨_, (!t227), (by first | rfl | (simp; done) | (simp [*]; done)), H', ⟨by first | omega | exact Nat.le_refl _⟩, ⟨by (with_reducible repeat (first | apply Kd.R_alloc | apply Kd.R_drewN | apply Kd.R_drew)); exact Kd.R_mono HO204.out (fun _ hk => hk.2.2.2.2.1)⟩, ⟨by (with_reducible repeat (first | apply Kd.R_alloc | apply Kd.R_drewN | apply Kd.R_drew)); exact Kd.R_mono HO213.out (fun _ hk => hk.2.2.1)⟩, ⟨by repeat (first | (with_reducible first | exact HB.out | apply below_alloc | apply pw_below_drewN | apply below_drew1) | exact HB.out)⟩⟩
            case rest =>
              clear HC22
              try clear c1
              try clear c2
              try clear p2
              try clear c3
              try clear c4
              try clear c4b0
              try clear c4b1
              try clear c5
              try clear c5b0
              try clear c5b1
              try clear c6
              try clear c7
              try clear c8
              try clear c9
              try clear c10
              try clear c13
              try clear c16
              try clear c19
              try clear c41
              try clear c41b0
              obtain ⟨kq, x62_21, rfl, HA, HJ21, HO_7, HO_10, HB⟩ := hcut
              cases kq with
              | zero => exact absurd HA.out (by simp [laws_FnExactDivide.j0])
              | succ kj21 =>
                have H := HA.out
                clear HA
                simp only [laws_FnExactDivide.j0] at H
                by_cases c43 : x62_21 = true
                · subst c43
                  have H1 : (some false) = some r := by rw [if_pos rfl] at H; exact H
                  clear H
                  have H := H1
                  clear H1
                  exact absurd (Option.some.inj H) (by rw [hrt_]; decide)
                · replace c43 := Bool.eq_false_iff.mpr c43
                  subst c43
                  have H1 : ((laws_markIntS.f kj21 t211 1).bind fun bt228 => ((laws_heldIntS.f kj21 bt228.2 1).bind fun t230 => (if t230 < 0 then (some false) else (if t230 = bt228.1 then ((laws_toIntS.f kj21 l1).bind fun t231 => ((laws_toIntS.f kj21 l2).bind fun t234 => ((impl_Divide.f kj21 a0 t231 t234).bind fun t237 => ((laws_eqIntS.f kj21 t237 t202).bind fun t240 => (if t240 = true then ((laws_heldIntS.f kj21 bt228.2 1).bind fun t241 => (if t241 < 0 then (some false) else (if t241 = bt228.1 then (some true) else (some false)))) else (some false)))))) else (some false))))) = some r := by rw [if_neg (show ¬ (false = true) by decide)] at H; exact H
                  clear H
                  have H := H1
                  clear H1
                  replace H := Option.bind_eq_some_iff.mp H
                  obtain ⟨⟨t228, t229⟩, A440, H⟩ := H
                  replace H : ((laws_heldIntS.f kj21 t229 1).bind fun t230 => (if t230 < 0 then (some false) else (if t230 = t228 then ((laws_toIntS.f kj21 l1).bind fun t231 => ((laws_toIntS.f kj21 l2).bind fun t234 => ((impl_Divide.f kj21 a0 t231 t234).bind fun t237 => ((laws_eqIntS.f kj21 t237 t202).bind fun t240 => (if t240 = true then ((laws_heldIntS.f kj21 t229 1).bind fun t241 => (if t241 < 0 then (some false) else (if t241 = t228 then (some true) else (some false)))) else (some false)))))) else (some false)))) = some r := H
                  have A44 := Aside0.mk A440
                  clear A440
                  replace H := Option.bind_eq_some_iff.mp H
                  obtain ⟨t230, A450, H⟩ := H
                  replace H : (if t230 < 0 then (some false) else (if t230 = t228 then ((laws_toIntS.f kj21 l1).bind fun t231 => ((laws_toIntS.f kj21 l2).bind fun t234 => ((impl_Divide.f kj21 a0 t231 t234).bind fun t237 => ((laws_eqIntS.f kj21 t237 t202).bind fun t240 => (if t240 = true then ((laws_heldIntS.f kj21 t229 1).bind fun t241 => (if t241 < 0 then (some false) else (if t241 = t228 then (some true) else (some false)))) else (some false)))))) else (some false))) = some r := H
                  have A45 := Aside0.mk A450
                  clear A450
                  by_cases c46 : t230 < 0
                  · rw [if_pos c46] at H
                    have c46b0 : decide (t230 < 0) = true := decide_eq_true c46
                    clear c46
                    exact absurd (Option.some.inj H) (by rw [hrt_]; decide)
                  · rw [if_neg c46] at H
                    have c46b0 : decide (t230 < 0) = false := decide_eq_false c46
                    clear c46
                    by_cases c48 : t230 = t228
                    · rw [if_pos c48] at H
                      have c48b0 : (t230 == t228) = true := beq_iff_eq.mpr c48
                      have c48b1 : (t230 != t228) = false := bne_eq_false_iff_eq.mpr c48
                      clear c48
                      replace H := Option.bind_eq_some_iff.mp H
                      obtain ⟨t231, A490, H⟩ := H
                      replace H : ((laws_toIntS.f kj21 l2).bind fun t234 => ((impl_Divide.f kj21 a0 t231 t234).bind fun t237 => ((laws_eqIntS.f kj21 t237 t202).bind fun t240 => (if t240 = true then ((laws_heldIntS.f kj21 t229 1).bind fun t241 => (if t241 < 0 then (some false) else (if t241 = t228 then (some true) else (some false)))) else (some false))))) = some r := H
                      have A49 := Aside0.mk A490
                      clear A490
                      replace H := Option.bind_eq_some_iff.mp H
                      obtain ⟨t234, A500, H⟩ := H
                      replace H : ((impl_Divide.f kj21 a0 t231 t234).bind fun t237 => ((laws_eqIntS.f kj21 t237 t202).bind fun t240 => (if t240 = true then ((laws_heldIntS.f kj21 t229 1).bind fun t241 => (if t241 < 0 then (some false) else (if t241 = t228 then (some true) else (some false)))) else (some false)))) = some r := H
                      have A50 := Aside0.mk A500
                      clear A500
                      replace H := Option.bind_eq_some_iff.mp H
                      obtain ⟨t237, A510, H⟩ := H
                      replace H : ((laws_eqIntS.f kj21 t237 t202).bind fun t240 => (if t240 = true then ((laws_heldIntS.f kj21 t229 1).bind fun t241 => (if t241 < 0 then (some false) else (if t241 = t228 then (some true) else (some false)))) else (some false))) = some r := H
                      have A51 := Aside0.mk A510
                      clear A510
                      replace H := Option.bind_eq_some_iff.mp H
                      obtain ⟨t240, A520, H⟩ := H
                      replace H : (if t240 = true then ((laws_heldIntS.f kj21 t229 1).bind fun t241 => (if t241 < 0 then (some false) else (if t241 = t228 then (some true) else (some false)))) else (some false)) = some r := H
                      have A52 := Aside0.mk A520
                      clear A520
                      by_cases c53 : t240 = true
                      · subst c53
                        have H1 : ((laws_heldIntS.f kj21 t229 1).bind fun t241 => (if t241 < 0 then (some false) else (if t241 = t228 then (some true) else (some false)))) = some r := by rw [if_pos rfl] at H; exact H
                        clear H
                        have H := H1
                        clear H1
                        replace H := Option.bind_eq_some_iff.mp H
                        obtain ⟨t241, A540, H⟩ := H
                        replace H : (if t241 < 0 then (some false) else (if t241 = t228 then (some true) else (some false))) = some r := H
                        have A54 := Aside0.mk A540
                        clear A540
                        by_cases c55 : t241 < 0
                        · rw [if_pos c55] at H
                          have c55b0 : decide (t241 < 0) = true := decide_eq_true c55
                          clear c55
                          exact absurd (Option.some.inj H) (by rw [hrt_]; decide)
                        · rw [if_neg c55] at H
                          have c55b0 : decide (t241 < 0) = false := decide_eq_false c55
                          clear c55
                          by_cases c63 : t241 = t228
                          · rw [if_pos c63] at H
                            have c63b0 : (t241 == t228) = true := beq_iff_eq.mpr c63
                            have c63b1 : (t241 != t228) = false := bne_eq_false_iff_eq.mpr c63
                            clear c63
                            obtain rfl := Option.some.inj H
                            go_wp2_with (first | ((with_reducible refine gate_callee (f := 10) rfl ?_); refine goesL_ (some 65) rfl rfl Try.func10 (by kernel_rfl) rfl #[.slice Ao33 t211.length co33, .int .i64 1] rfl (by (try simp only [List.map_toArray, List.map_cons, List.map_nil]); first | done | rfl | (simp only [List.length_drop, List.length_take]; rfl)) ?_; (with_reducible refine (laws_markIntS.calls kj21 (fun k_ => some k_ = (.slice Ao33 t211.length co33 : Value).ownBlock) (.slice Ao33 t211.length co33) t211 1 t228 t229 w _ ?side1 ?side2 A44.out).mono ?_); (case side1 => repeat (first | (with_reducible first | exact HB.out | apply below_alloc | apply pw_below_drewN | apply below_drew1) | exact HB.out)); (case side2 => exact Kd.R_tight rfl HO_10.out); rintro e w64 ⟨rfl, hy0, hb, hkp⟩; refine ⟨_, rfl, ?_⟩; have n0_ := Aside0.mk (Kd.R_mono (ok' := fun k_ => some k_ ≠ (.slice Ao33 t211.length co33 : Value).ownBlock) (Kd.R_keptB (HO_7.out) hkp (fun k_ hk_ hs_ => (hk_) hs_)) (fun k_ hk_ => hk_.1)); have n1_ := Aside0.mk (Kd.R_reok rfl hy0 (fun k_ e_ => HO_10.out.1 k_ e_)); have n2_ := Aside0.mk (hb); clear HO_7; clear HO_10; clear HB; have HO_7 := n0_; have HO_10 := n1_; have HB := n2_; clear n0_ n1_ n2_; (try clear hb); (try clear hkp); (try clear hy0)) | ((with_reducible refine gate_callee (f := 11) rfl ?_); refine goesL_ (some 68) rfl rfl Try.func11 (by kernel_rfl) rfl #[.slice Ao33 t229.length co33, .int .i64 1] rfl (by (try simp only [List.map_toArray, List.map_cons, List.map_nil]); first | done | (rw [show t229.length = t211.length from (Kd.R_reads' HO_10.out).1.symm] <;> rfl) | rfl | (simp only [List.length_drop, List.length_take]; rfl)) ?_; (with_reducible refine (laws_heldIntS.calls kj21 _ _ t229 1 t230 _ ?side1 ?side2 A45.out).mono ?_); (case side1 => repeat (first | exact (Kd.R_reads' HO_10.out).2.2 | (with_reducible refine Kd.C_alloc ?_ _) | (with_reducible refine Kd.C_drewN ?_ _) | (with_reducible refine Kd.C_drew ?_))); (case side2 => rw [show t229.length = t211.length from (Kd.R_reads' HO_10.out).1.symm]; exact (Kd.R_reads' HO_10.out).2.1); rintro e w' ⟨rfl, ⟨nd, rfl⟩⟩; refine ⟨_, rfl, ?_⟩) | ((with_reducible refine gate_callee (f := 7) rfl ?_); refine goesL_ (some 76) rfl rfl Try.func7 (by kernel_rfl) rfl #[.slice A1 l1.length c1] rfl (by (try simp only [List.map_toArray, List.map_cons, List.map_nil]); first | done | rfl | (simp only [List.length_drop, List.length_take]; rfl)) ?_; (with_reducible refine (laws_toIntS.calls kj21 _ _ l1 t231 _ ?side1 ?side2 A49.out).mono ?_); (case side1 => repeat (first | exact (Kd.C_below HR1.out (by repeat (first | (with_reducible first | exact HB.out | apply below_alloc | apply pw_below_drewN | apply below_drew1) | exact HB.out))) | (with_reducible refine Kd.C_alloc ?_ _) | (with_reducible refine Kd.C_drewN ?_ _) | (with_reducible refine Kd.C_drew ?_))); (case side2 => exact HC1.out); rintro e w65 ⟨v232, rfl, ho0, hb⟩; refine ⟨_, rfl, ?_⟩; have n0_ := Aside0.mk (Kd.R_elder' (by (with_reducible repeat (first | apply Kd.R_alloc | apply Kd.R_drewN | apply Kd.R_drew)); exact HO_7.out) (Kd.R_base ho0) hb); have n1_ := Aside0.mk (Kd.R_elder' (by (with_reducible repeat (first | apply Kd.R_alloc | apply Kd.R_drewN | apply Kd.R_drew)); exact HO_10.out) (Kd.R_base ho0) hb); have n2_ := Aside0.mk (Kd.R_lower (Kd.R_new' (Kd.R_new' ho0 (Kd.R_lt (by (with_reducible repeat (first | apply Kd.R_alloc | apply Kd.R_drewN | apply Kd.R_drew)); exact HO_7.out))) (Kd.R_lt (by (with_reducible repeat (first | apply Kd.R_alloc | apply Kd.R_drewN | apply Kd.R_drew)); exact HO_10.out))) (below_size (by repeat (first | (with_reducible first | exact HB.out | apply below_alloc | apply pw_below_drewN | apply below_drew1) | exact HB.out)))); have n3_ := Aside0.mk (below_step (by repeat (first | (with_reducible first | exact HB.out | apply below_alloc | apply pw_below_drewN | apply below_drew1) | exact HB.out)) hb); clear HO_7; clear HO_10; clear HB; have HO_7 := n0_; have HO_10 := n1_; have HO233 := n2_; have HB := n3_; clear n0_ n1_ n2_ n3_; (try clear hb); (try clear hb2); (try clear hk); (try clear hi); (try clear ho0)) | ((with_reducible refine gate_callee (f := 7) rfl ?_); refine goesL_ (some 78) rfl rfl Try.func7 (by kernel_rfl) rfl #[.slice A2 l2.length c2] rfl (by (try simp only [List.map_toArray, List.map_cons, List.map_nil]); first | done | rfl | (simp only [List.length_drop, List.length_take]; rfl)) ?_; (with_reducible refine (laws_toIntS.calls kj21 _ _ l2 t234 _ ?side1 ?side2 A50.out).mono ?_); (case side1 => repeat (first | exact (Kd.C_below HR2.out HB.out) | (with_reducible refine Kd.C_alloc ?_ _) | (with_reducible refine Kd.C_drewN ?_ _) | (with_reducible refine Kd.C_drew ?_))); (case side2 => exact HC2.out); rintro e w66 ⟨v235, rfl, ho0, hb⟩; refine ⟨_, rfl, ?_⟩; have n0_ := Aside0.mk (Kd.R_elder' (by (with_reducible repeat (first | apply Kd.R_alloc | apply Kd.R_drewN | apply Kd.R_drew)); exact HO_7.out) (Kd.R_base ho0) hb); have n1_ := Aside0.mk (Kd.R_elder' (by (with_reducible repeat (first | apply Kd.R_alloc | apply Kd.R_drewN | apply Kd.R_drew)); exact HO_10.out) (Kd.R_base ho0) hb); have n2_ := Aside0.mk (Kd.R_elder' (by (with_reducible repeat (first | apply Kd.R_alloc | apply Kd.R_drewN | apply Kd.R_drew)); exact HO233.out) (Kd.R_base ho0) hb); have n3_ := Aside0.mk (Kd.R_lower (Kd.R_new' (Kd.R_new' (Kd.R_new' ho0 (Kd.R_lt (by (with_reducible repeat (first | apply Kd.R_alloc | apply Kd.R_drewN | apply Kd.R_drew)); exact HO_7.out))) (Kd.R_lt (by (with_reducible repeat (first | apply Kd.R_alloc | apply Kd.R_drewN | apply Kd.R_drew)); exact HO_10.out))) (Kd.R_lt (by (with_reducible repeat (first | apply Kd.R_alloc | apply Kd.R_drewN | apply Kd.R_drew)); exact HO233.out))) (below_size (by repeat (first | (with_reducible first | exact HB.out | apply below_alloc | apply pw_below_drewN | apply below_drew1) | exact HB.out)))); have n4_ := Aside0.mk (below_step (by repeat (first | (with_reducible first | exact HB.out | apply below_alloc | apply pw_below_drewN | apply below_drew1) | exact HB.out)) hb); clear HO_7; clear HO_10; clear HO233; clear HB; have HO_7 := n0_; have HO_10 := n1_; have HO233 := n2_; have HO236 := n3_; have HB := n4_; clear n0_ n1_ n2_ n3_ n4_; (try clear hb); (try clear hb2); (try clear hk); (try clear hi); (try clear ho0); obtain ⟨Ao67, co67, eo67⟩ := Kd.R_slice HO233.out; subst eo67; obtain ⟨Ao68, co68, eo68⟩ := Kd.R_slice HO236.out; subst eo68) | ((with_reducible refine gate_callee (f := 8) rfl ?_); refine goesL_ (some 79) rfl rfl Try.func8 (by kernel_rfl) rfl #[.int .i64 a0, .slice Ao67 t231.length co67, .slice Ao68 t234.length co68] rfl (by (try simp only [List.map_toArray, List.map_cons, List.map_nil]); first | done | rfl | (simp only [List.length_drop, List.length_take]; rfl)) ?_; (with_reducible refine (impl_Divide.calls kj21 a0 _ _ t231 _ _ t234 t237 _ ?side1 ?side2 ?side3 ?side4 A51.out).mono ?_); (case side1 => repeat (first | exact (Kd.R_reads' HO233.out).2.2 | (with_reducible refine Kd.C_alloc ?_ _) | (with_reducible refine Kd.C_drewN ?_ _) | (with_reducible refine Kd.C_drew ?_))); (case side2 => exact (Kd.R_reads' HO233.out).2.1); (case side3 => repeat (first | exact (Kd.R_reads' HO236.out).2.2 | (with_reducible refine Kd.C_alloc ?_ _) | (with_reducible refine Kd.C_drewN ?_ _) | (with_reducible refine Kd.C_drew ?_))); (case side4 => exact (Kd.R_reads' HO236.out).2.1); rintro e w69 ⟨v238, rfl, ho0, hb⟩; refine ⟨_, rfl, ?_⟩; have n0_ := Aside0.mk (Kd.R_elder' (by (with_reducible repeat (first | apply Kd.R_alloc | apply Kd.R_drewN | apply Kd.R_drew)); exact HO_7.out) (Kd.R_base ho0) hb); have n1_ := Aside0.mk (Kd.R_elder' (by (with_reducible repeat (first | apply Kd.R_alloc | apply Kd.R_drewN | apply Kd.R_drew)); exact HO_10.out) (Kd.R_base ho0) hb); have n2_ := Aside0.mk (Kd.R_elder' (by (with_reducible repeat (first | apply Kd.R_alloc | apply Kd.R_drewN | apply Kd.R_drew)); exact HO233.out) (Kd.R_base ho0) hb); have n3_ := Aside0.mk (Kd.R_elder' (by (with_reducible repeat (first | apply Kd.R_alloc | apply Kd.R_drewN | apply Kd.R_drew)); exact HO236.out) (Kd.R_base ho0) hb); have n4_ := Aside0.mk (Kd.R_lower (Kd.R_new' (Kd.R_new' (Kd.R_new' (Kd.R_new' ho0 (Kd.R_lt (by (with_reducible repeat (first | apply Kd.R_alloc | apply Kd.R_drewN | apply Kd.R_drew)); exact HO_7.out))) (Kd.R_lt (by (with_reducible repeat (first | apply Kd.R_alloc | apply Kd.R_drewN | apply Kd.R_drew)); exact HO_10.out))) (Kd.R_lt (by (with_reducible repeat (first | apply Kd.R_alloc | apply Kd.R_drewN | apply Kd.R_drew)); exact HO233.out))) (Kd.R_lt (by (with_reducible repeat (first | apply Kd.R_alloc | apply Kd.R_drewN | apply Kd.R_drew)); exact HO236.out))) (below_size (by repeat (first | (with_reducible first | exact HB.out | apply below_alloc | apply pw_below_drewN | apply below_drew1) | exact HB.out)))); have n5_ := Aside0.mk (below_step (by repeat (first | (with_reducible first | exact HB.out | apply below_alloc | apply pw_below_drewN | apply below_drew1) | exact HB.out)) hb); clear HO_7; clear HO_10; clear HO233; clear HO236; clear HB; have HO_7 := n0_; have HO_10 := n1_; have HO233 := n2_; have HO236 := n3_; have HO239 := n4_; have HB := n5_; clear n0_ n1_ n2_ n3_ n4_ n5_; (try clear hb); (try clear hb2); (try clear hk); (try clear hi); (try clear ho0); obtain ⟨Ao70, co70, eo70⟩ := Kd.R_slice HO239.out; subst eo70) | ((with_reducible refine gate_callee (f := 9) rfl ?_); refine goesL_ (some 82) rfl rfl Try.func9 (by kernel_rfl) rfl #[.slice Ao70 t237.length co70, .slice Ao34 t202.length co34] rfl (by (try simp only [List.map_toArray, List.map_cons, List.map_nil]); first | done | rfl | (simp only [List.length_drop, List.length_take]; rfl)) ?_; (with_reducible refine (laws_eqIntS.calls kj21 _ _ t237 _ _ t202 true _ ?side1 ?side2 ?side3 ?side4 A52.out).mono ?_); (case side1 => repeat (first | exact (Kd.R_reads' HO239.out).2.2 | (with_reducible refine Kd.C_alloc ?_ _) | (with_reducible refine Kd.C_drewN ?_ _) | (with_reducible refine Kd.C_drew ?_))); (case side2 => exact (Kd.R_reads' HO239.out).2.1); (case side3 => repeat (first | exact (Kd.R_reads' HO_7.out).2.2 | (with_reducible refine Kd.C_alloc ?_ _) | (with_reducible refine Kd.C_drewN ?_ _) | (with_reducible refine Kd.C_drew ?_))); (case side4 => exact (Kd.R_reads' HO_7.out).2.1); rintro e w' ⟨rfl, ⟨nd, rfl⟩⟩; refine ⟨_, rfl, ?_⟩) | ((with_reducible refine gate_callee (f := 11) rfl ?_); refine goesL_ (some 86) rfl rfl Try.func11 (by kernel_rfl) rfl #[.slice Ao33 t229.length co33, .int .i64 1] rfl (by (try simp only [List.map_toArray, List.map_cons, List.map_nil]); first | done | (rw [show t229.length = t211.length from (Kd.R_reads' HO_10.out).1.symm] <;> rfl) | rfl | (simp only [List.length_drop, List.length_take]; rfl)) ?_; (with_reducible refine (laws_heldIntS.calls kj21 _ _ t229 1 t241 _ ?side1 ?side2 A54.out).mono ?_); (case side1 => repeat (first | exact (Kd.R_reads' HO_10.out).2.2 | (with_reducible refine Kd.C_alloc ?_ _) | (with_reducible refine Kd.C_drewN ?_ _) | (with_reducible refine Kd.C_drew ?_))); (case side2 => rw [show t229.length = t211.length from (Kd.R_reads' HO_10.out).1.symm]; exact (Kd.R_reads' HO_10.out).2.1); rintro e w' ⟨rfl, ⟨nd, rfl⟩⟩; refine ⟨_, rfl, ?_⟩))
                            go_ret
                            exact ⟨by first | rfl | (simp [errW_none, errW_some] <;> rfl) | (simp [*, errW_none, errW_some] <;> rfl), by repeat (first | (with_reducible first | exact HB.out | apply below_alloc | apply pw_below_drewN | apply below_drew1) | exact HB.out)⟩
                          · rw [if_neg c63] at H
                            have c63b0 : (t241 == t228) = false := beq_eq_false_iff_ne.mpr c63
                            have c63b1 : (t241 != t228) = true := bne_iff_ne.mpr c63
                            exact absurd (Option.some.inj H) (by rw [hrt_]; decide)
                      · replace c53 := Bool.eq_false_iff.mpr c53
                        subst c53
                        have H1 : (some false) = some r := by rw [if_neg (show ¬ (false = true) by decide)] at H; exact H
                        clear H
                        have H := H1
                        clear H1
                        exact absurd (Option.some.inj H) (by rw [hrt_]; decide)
                    · rw [if_neg c48] at H
                      have c48b0 : (t230 == t228) = false := beq_eq_false_iff_ne.mpr c48
                      have c48b1 : (t230 != t228) = true := bne_iff_ne.mpr c48
                      exact absurd (Option.some.inj H) (by rw [hrt_]; decide)
          · replace c19 := Bool.eq_false_iff.mpr c19
            subst c19
            have H1 : (some false) = some r := by rw [if_neg (show ¬ (false = true) by decide)] at H; exact H
            clear H
            have H := H1
            clear H1
            exact absurd (Option.some.inj H) (by rw [hrt_]; decide)
        · replace c16 := Bool.eq_false_iff.mpr c16
          subst c16
          have H1 : (some false) = some r := by rw [if_neg (show ¬ (false = true) by decide)] at H; exact H
          clear H
          have H := H1
          clear H1
          exact absurd (Option.some.inj H) (by rw [hrt_]; decide)
      · replace c13 := Bool.eq_false_iff.mpr c13
        subst c13
        have H1 : (some false) = some r := by rw [if_neg (show ¬ (false = true) by decide)] at H; exact H
        clear H
        have H := H1
        clear H1
        exact absurd (Option.some.inj H) (by rw [hrt_]; decide)
end Go.Proofs.Yteilcchcekmooaa.G

/- PDivLaw -/
/-
  The law of Divide is answered true.
-/
namespace Go.Proofs.Yteilcchcekmooaa.G
open Go.RowKit Go.Sort Go.Proofs.YteilcchcekmooaaW.PrintWords Go.Proofs.YteilcchcekmooaaW.PrintLast Go.Proofs.YteilcchcekmooaaW.PrintMore
set_option linter.unusedVariables false
set_option linter.unusedSimpArgs false
theorem toIntS_ev (l : List Int) (h : l.length ≤ 1048576) : Ev (fun k => laws_toIntS.f k l) l := by
  have key : ∀ d i, i + d = l.length → Ev (fun k => laws_toIntS.l0 k l (mapR l.length (fun j => if j < i then rd l (j : Int) else 0)) (i : Int)) l := by
    intro d
    induction d with
    | zero =>
      intro i hi
      obtain rfl : i = l.length := by omega
      refine Ev.step (fun k => by rw [laws_toIntS.l0]) (ev_if_neg (by omega) (ev_some ?_))
      rw [mapR_congr (g := fun j => rd l (j : Int)) (fun j hj => if_pos hj), ← mapR_of]
    | succ d ih =>
      intro i hi
      have hiN : i < l.length := by omega
      have ih := ih (i + 1) (by omega)
      have e : (mapR l.length (fun j => if j < i then rd l (j : Int) else 0)).set i (rd l (i : Int)) = mapR l.length (fun j => if j < i + 1 then rd l (j : Int) else 0) := by
        rw [mapR_set]
        refine mapR_congr (fun j hj => ?_)
        by_cases e : j = i
        · subst e; rw [if_pos rfl, if_pos (by omega)]
        · rw [if_neg e]
          by_cases c : j < i
          · rw [if_pos c, if_pos (by omega)]
          · rw [if_neg c, if_neg (by omega)]
      refine Ev.step (fun k => by rw [laws_toIntS.l0]) (ev_if_pos (by omega) (ev_if_pos (by omega) (ev_if_pos (by rw [mapR_len]; omega) ?_)))
      simp only [Int.toNat_natCast, e, wsucc hiN (by omega)]
      exact ih
  unfold laws_toIntS.f
  refine ev_if_pos (by omega) (ev_if_pos (by omega) ?_)
  have h0 := key l.length 0 (by omega)
  rw [mapR_congr (g := fun _ => 0) (fun j hj => if_neg (by omega))] at h0
  rw [Int.toNat_natCast, mapR_repl]
  exact h0
theorem eqIntS_ev (l : List Int) (h : l.length ≤ 1048576) : Ev (fun k => laws_eqIntS.f k l l) true := by
  unfold laws_eqIntS.f
  refine ev_if_pos rfl ?_
  have h0 := loop_all (g := fun k i => laws_eqIntS.l0 k l l i) l.length (fun _ => true) true (fun i hi hok r hr => by
    refine Ev.step (fun k => by rw [laws_eqIntS.l0]) (ev_if_pos (by omega) (ev_if_pos (by omega) (ev_if_pos (by omega) (ev_if_pos rfl ?_))))
    simp only [wsucc hi (by omega)]
    exact hr) (fun i hi hok => by cases hok) (Ev.step (fun k => by rw [laws_eqIntS.l0]) (ev_if_neg (by omega) (ev_some rfl)))
  rw [Bool.and_true, allN_true.2 (fun _ _ => rfl)] at h0
  exact h0
def markL (N : Nat) (a : Int) : List Int := mapR N (fun j => a + j)
theorem markIntS_ev (l : List Int) (a : Int) (h : l.length ≤ 1048576) (h0 : 0 ≤ a) (h1 : a ≤ 1099511627776) : Ev (fun k => laws_markIntS.f k l a) (a + l.length, markL l.length a) := by
  have key : ∀ d i, i + d = l.length → Ev (fun k => laws_markIntS.l0 k (mapR l.length (fun j => if j < i then a + j else rd l (j : Int))) (a + i) (i : Int)) (a + l.length, markL l.length a) := by
    intro d
    induction d with
    | zero =>
      intro i hi
      obtain rfl : i = l.length := by omega
      refine Ev.step (fun k => by rw [laws_markIntS.l0]) (ev_if_neg (by rw [mapR_len]; omega) (ev_some ?_))
      rw [mapR_congr (g := fun j => a + (j : Int)) (fun j hj => if_pos hj)]
      rfl
    | succ d ih =>
      intro i hi
      have hiN : i < l.length := by omega
      have ih := ih (i + 1) (by omega)
      have e : (mapR l.length (fun j => if j < i then a + j else rd l (j : Int))).set i (a + i) = mapR l.length (fun j => if j < i + 1 then a + j else rd l (j : Int)) := by
        rw [mapR_set]
        refine mapR_congr (fun j hj => ?_)
        by_cases e : j = i
        · subst e; rw [if_pos rfl, if_pos (by omega)]
        · rw [if_neg e]
          by_cases c : j < i
          · rw [if_pos c, if_pos (by omega)]
          · rw [if_neg c, if_neg (by omega)]
      refine Ev.step (fun k => by rw [laws_markIntS.l0]) (ev_if_pos (by rw [mapR_len]; omega) (ev_if_pos (by omega) ?_))
      simp only [Int.toNat_natCast, e, wsucc hiN (by omega), w64 (x := a + (i : Int) + 1) (by omega) (by omega)]
      rw [show a + (i : Int) + 1 = a + ((i + 1 : Nat) : Int) by omega]
      exact ih
  unfold laws_markIntS.f
  have h2 := key l.length 0 (by omega)
  rw [mapR_congr (g := fun j => rd l (j : Int)) (fun j hj => if_neg (by omega)), ← mapR_of] at h2
  simpa using h2
theorem heldIntS_ev (N : Nat) (a : Int) (h : N ≤ 1048576) (h0 : 0 ≤ a) (h1 : a ≤ 1099511627776) : Ev (fun k => laws_heldIntS.f k (markL N a) a) (a + N) := by
  have key : ∀ d i, i + d = N → Ev (fun k => laws_heldIntS.l0 k (markL N a) (a + i) (i : Int)) (a + N) := by
    intro d
    induction d with
    | zero =>
      intro i hi
      obtain rfl : i = N := by omega
      exact Ev.step (fun k => by rw [laws_heldIntS.l0]) (ev_if_neg (by unfold markL; rw [mapR_len]; omega) (ev_some rfl))
    | succ d ih =>
      intro i hi
      have ih := ih (i + 1) (by omega)
      refine Ev.step (fun k => by rw [laws_heldIntS.l0]) (ev_if_pos (by unfold markL; rw [mapR_len]; omega) (ev_if_pos (by omega) (ev_if_pos (by unfold markL; rw [mapR_rd _ (by omega)]) ?_)))
      simp only [wsucc (show i < N by omega) (by omega), w64 (x := a + (i : Int) + 1) (by omega) (by omega)]
      rw [show a + (i : Int) + 1 = a + ((i + 1 : Nat) : Int) by omega]
      exact ih
  unfold laws_heldIntS.f
  have h2 := key N 0 (by omega)
  simpa using h2
-- 3
theorem FnExactDivide_pure (n : Int) (ws cs : List Int) (hn : -9223372036854775808 ≤ n ∧ n ≤ 9223372036854775807) (hw : ws.length ≤ 9223372036854775807 ∧ ∀ x ∈ ws, wfInt x) (hc : cs.length ≤ 9223372036854775807 ∧ ∀ x ∈ cs, wfInt x) : ∃ k, laws_FnExactDivide.f k n ws cs = some true := by
  suffices h : Ev (fun k => laws_FnExactDivide.f k n ws cs) true by obtain ⟨K, hK⟩ := h; exact ⟨K, hK K (Nat.le_refl _)⟩
  unfold laws_FnExactDivide.f
  by_cases c1 : (ws.length : Int) > 1048576
  · exact ev_if_pos c1 (ev_some rfl)
  refine ev_if_neg c1 ?_
  by_cases c2 : (cs.length : Int) > 1048576
  · exact ev_if_pos c2 (ev_some rfl)
  refine ev_if_neg c2 ?_
  obtain ⟨l, hi, hs, hl⟩ := divide_both n ws cs
  have hlen : l.length ≤ 64 := by
    rcases hl with ⟨_, rfl⟩ | ⟨h, g, r, rfl, _⟩
    · simp
    · rw [mapR_len]; exact h.l1
  have tw := toIntS_ev ws (by omega)
  have tc := toIntS_ev cs (by omega)
  have hh := heldIntS_ev l.length 1 (by omega) (by omega) (by omega)
  refine Ev.bind tw (Ev.bind tc (Ev.bind hs (Ev.bind tw (Ev.bind tc (Ev.bind hi (Ev.bind (eqIntS_ev l (by omega)) (ev_if_pos rfl (Ev.bind tw (Ev.bind (eqIntS_ev ws (by omega)) (ev_if_pos rfl (Ev.bind tc (Ev.bind (eqIntS_ev cs (by omega)) (ev_if_pos rfl (Ev.bind (markIntS_ev ws 1 (by omega) (by omega) (by omega)) (Ev.bind (markIntS_ev cs (1 + ws.length) (by omega) (by omega) (by omega)) (ev_if_neg (by show ¬ (1 + (ws.length : Int) + cs.length) < 0; omega) (Ev.bind (eqIntS_ev l (by omega)) ?_)))))))))))))))))
  refine Ev.step (fun k => by rw [laws_FnExactDivide.j0]) (ev_if_neg (by simp) (Ev.bind (markIntS_ev l 1 (by omega) (by omega) (by omega)) (Ev.bind hh (ev_if_neg (by show ¬ (1 + (l.length : Int)) < 0; omega) (ev_if_pos rfl (Ev.bind tw (Ev.bind tc (Ev.bind hi (Ev.bind (eqIntS_ev l (by omega)) (ev_if_pos rfl (Ev.bind hh (ev_if_neg (by show ¬ (1 + (l.length : Int)) < 0; omega) (ev_if_pos rfl (ev_some rfl))))))))))))))
end Go.Proofs.Yteilcchcekmooaa.G

/- GKArgs -/
/-
  The arguments of the laws, opened: at this dump's type numbers.
-/
namespace Go.Proofs.Yteilcchcekmooaa.G
open Go.RowKit Go.Proofs.YteilcchcekmooaaW.PrintWords Go.Proofs.YteilcchcekmooaaW.PrintLast Go.Proofs.YteilcchcekmooaaW.PrintMore
set_option linter.unusedVariables false
theorem int_wf {n : Int} (h : (Lit.int .i64 n).wf = true) : -9223372036854775808 ≤ n ∧ n ≤ 9223372036854775807 := by
  have m1 : IntKind.i64.min = -9223372036854775808 := by decide
  have m2 : IntKind.i64.max = 9223372036854775807 := by decide
  simpa only [Lit.wf, Bool.and_eq_true, decide_eq_true_eq, m1, m2] using h
section
variable {H : Type} {enc : TypeId × Value → H} {w : World} {base : Nat} {spare : Nat → Bool} {held : Bool} {v : Value} {d : DataW H} {p : List MemPlace} {r : Reach} {b0 : Nat}
set_option maxRecDepth 20000 in
/-- A slice of such elements. -/
theorem kopen_of {α : Type} {t e : TypeId} {k : Kd α} {Wf : α → Prop} (ht : Try.prog.underlying t = some (.slice e)) (hsz : Try.prog.cellsOf e = k.sz) (hpos : 0 < k.sz) (ho : ∀ m, KOpens enc Try.prog w base spare held m e k Wf)
    (hv : Value.okWide Try.prog w r b0 t v) (h : DataW.Trod enc Try.prog w base spare held t v d p) :
    ∃ (xs : List α) (A : Option Addr) (c : Nat), v = .slice A xs.length c ∧ (xs.length ≤ 9223372036854775807 ∧ ∀ x ∈ xs, Wf x) ∧ xs.length ≤ c ∧ Kd.C k w A xs.length xs := by
  obtain ⟨A, n, c, rfl⟩ := Go.WideShapes.okWide_slice ht hv
  obtain ⟨fuel, h⟩ := h
  obtain ⟨xs, hw, A', c', he, hl, hC⟩ := kopens_slice ht hsz hpos (fun _ _ => trivial) (fun m _ => ho m) _ _ h
  have he' : [Value.slice A n c] = [Value.slice A' xs.length c'] := he
  simp only [List.cons.injEq, and_true] at he'
  exact ⟨xs, A', c', he', hw, hl, hC⟩
set_option maxRecDepth 20000 in
theorem kopen_ints (hv : Value.okWide Try.prog w r b0 22 v) (h : DataW.Trod enc Try.prog w base spare held 22 v d p) :
    ∃ (xs : List Int) (A : Option Addr) (c : Nat), v = .slice A xs.length c ∧ (xs.length ≤ 9223372036854775807 ∧ ∀ x ∈ xs, wfInt x) ∧ xs.length ≤ c ∧ Kd.C (Kd.int .i64) w A xs.length xs :=
  kopen_of Try.underlying22 (by kernel_rfl) (by decide) (fun m => kopens_int Try.underlying3) hv h
end
end Go.Proofs.Yteilcchcekmooaa.G

/- RowFnExactDivide -/
/- The law 'FnExactDivide' holds for every input: it returns true, and each argument reads behind the call as it read before. No condition. -/
namespace Go.Proofs.Yteilcchcekmooaa.fnExactDivide
open Go.ChangeShapes Go.WideShapes Go.ChangeAt Go.RowKit
set_option linter.unusedVariables false
theorem own : ownKnob Try.prog.godebug = none := by kernel_rfl
theorem laidOut : laidOutB Try.prog = true := by kernel_rfl
set_option maxRecDepth 100000 in
theorem lifted (os : Os) (started : os.Started) (H : Type) (enc : TypeId × Value → H) :
    ReturnsInHanded {} Try.checked os 3 .any (Rows.fnExactDivideSpec.pre6 enc Try.prog Try.f3 Rows.fnExactDivideRow.domain false) (Rows.fnExactDivideSpec.post enc Try.prog Try.f3 false true false false) := by
  refine returnsInHanded_of_change (C := Try.checked) own started (by kernel_rfl) Try.func3
    (ChangeSpec.witness6 (enc := enc) (C := Try.checked) false ⟨#[], #[.int .i64 0, .slice none 0 0, .slice none 0 0], []⟩ 8 (by kernel_rfl) (by kernel_rfl) (by kernel_rfl) (by kernel_rfl)) ?_
  intro W base args ds gs before hval0 hW hcnd _
  have hval : ∀ (j : Nat) t v, Try.f3.params[j]? = some t → args[j]? = some v → Value.okWide Try.prog W .any base t v := hval0
  have hW' := hW
  obtain ⟨p, q, hA0, hV, rfl, hfz, hnd⟩ := hW
  have hA : DataW.TrodAll enc Try.prog W 0 (fun _ => true) true Try.f3.params.toList args.toList ds p := hA0
  rw [Try.params3] at hA hval
  obtain ⟨v0, vs0, d0, ds0, p0, q0, hargs0, rfl, rfl, h0, r0x⟩ := trodAll_cons hA
  obtain ⟨v1, vs1, d1, ds1, p1, q1, hargs1, rfl, rfl, h1, r1x⟩ := trodAll_cons r0x
  obtain ⟨v2, vs2, d2, ds2, p2, q2, hargs2, rfl, rfl, h2, r2x⟩ := trodAll_cons r1x
  obtain ⟨rfl, rfl, rfl⟩ := trodAll_nil r2x
  obtain rfl : args = #[v0, v1, v2] := by cases args; simp_all
  obtain ⟨rfl, rfl⟩ := trodVars_none hV
  have hlt := hW'.lt
  have hk0 := h0
  have hk1 := h1
  have hk2 := h2
  obtain ⟨s0, rfl, _, _, y0⟩ := open_int Try.underlying3 (hval 0 3 v0 rfl rfl) h0
  obtain ⟨x1, A1, c1, rfl, w1, l1, q1⟩ := G.kopen_ints (hval 1 22 v1 rfl rfl) h1
  obtain ⟨x2, A2, c2, rfl, w2, l2, q2⟩ := G.kopen_ints (hval 2 22 v2 rfl rfl) h2
  clear hA0 hval0
  obtain ⟨k, hk⟩ := G.FnExactDivide_pure s0 x1 x2 (G.int_wf y0) w1 w2
  refine (G.laws_FnExactDivide.calls k s0 A1 c1 x1 A2 c2 x2 true rfl W  q1 l1 q2 l2 hk).mono fun e W' ⟨he, bel⟩ => ?_
  subst he
  exact ⟨_, rfl, _, _, _, [], _, [], hW', trodAll_mk1 (shut_bool Try.underlying4 _), (trodAll_cons_mk (Below.trod laidOut (by kernel_rfl) (of_decide_eq_true (by kernel_rfl)) hk0 bel (fun x hx => hlt x (by simp [hx]))) (trodAll_cons_mk (Below.trod laidOut (by kernel_rfl) (of_decide_eq_true (by kernel_rfl)) hk1 bel (fun x hx => hlt x (by simp [hx]))) (trodAll_cons_mk (Below.trod laidOut (by kernel_rfl) (of_decide_eq_true (by kernel_rfl)) hk2 bel (fun x hx => hlt x (by simp [hx]))) trodAll_mk0))), rfl, bel.frame _, fun h => by cases h⟩
theorem over : Rows.fnExactDivideRow.holds Try.pinned (OpenSpec.ofChange Rows.fnExactDivideSpec) :=
  OpenClaim.holds_of_wide 3 Try.f3 rfl rfl rfl rfl rfl rfl rfl ⟨rfl, rfl, rfl, rfl, rfl⟩ rfl rfl rfl rfl rfl (by kernel_rfl) Try.func3 (by kernel_rfl)
    (of_decide_eq_true (by kernel_rfl)) (by unfold Func.isWrapper; first | (rw [if_pos (by decide +kernel)]; kernel_rfl) | (rw [if_neg (by decide +kernel)]; exact ⟨rfl, rfl⟩))
    (fun os started H enc _ => lifted os started H enc)
theorem proved : Rows.FnExactDivideSaid := over
#print axioms proved
end Go.Proofs.Yteilcchcekmooaa.fnExactDivide
namespace Go.Proofs.Yteilcchcekmooaa
theorem fnExactDivide_holds : Rows.FnExactDivideSaid := fnExactDivide.proved
end Go.Proofs.Yteilcchcekmooaa
