import Derived.Test.YtchhognpijobcaaDoorMFnAmountsCard1
import Derived.Test.YtchhognpijobcaaDoorMFnAmountsCard2
import Derived.ChangeArms
import Derived.ChangeShapes
import Derived.DataReads
import Derived.Test.YtchhognpijobcaaDoorProg
import Derived.WideShapes
import Derived.KernelRfl
import Derived.Test.YtchhognpijobcaaDoorRows
import Derived.WalkKit
import Derived.ProofKit
import Derived.OpenShut
import Derived.ShutString
import Derived.ChangeOld
import Derived.Carry
import Derived.Below
import Derived.Handed
import Derived.Test.YtchhognpijobcaaDoorCards
import Derived.Test.YtchhognpijobcaaDoorTie
import Derived.Lay
import Derived.LaidMore
import Derived.SevenTiedAt
import Derived.Stop.Joined
/- G5 -/
-- Laid by wip/g/gprint.py out of the translation, by the kit's print program. Lean checks it.
namespace Go.Proofs.YtchhognpijobcaaDoor.G
open Go.RowKit Go.Proofs.YtchhognpijobcaaDoorW.PrintWords Go.Proofs.YtchhognpijobcaaDoorW.PrintLast Go.Proofs.YtchhognpijobcaaDoorW.PrintMore
attribute [local go_sem] max2_int min2_int max_two min_two max_three min_three max_four min_four   -- for this text's walks alone
set_option linter.unusedVariables false
set_option linter.unusedSimpArgs false

/-! ### laws_FnAmounts: function 5 -/
def laws_FnAmounts.f (k : Nat) (l0 : List Int) : Option (Bool) := (laws_big.f l0).bind fun t324 => (if t324 = true then (some true) else ((spec_DrawAmountText.f k l0).bind fun t325 => ((impl_AmountText.f k t325).bind fun t326 => ((impl_ParseAmount.f k t326).bind fun bt327 => (if t325 < 0 then (if t326.toList = ([] : List UInt8) then (some (!bt327.2)) else (some false)) else (if t325 > 1000000000000000 then (if t326.toList = ([] : List UInt8) then (some (!bt327.2)) else (some false)) else (if bt327.2 = true then (if bt327.1 = t325 then (some (decide ((t326.size : Int) > 0))) else (some false)) else (some false))))))))
set_option maxHeartbeats 8000000 in
set_option maxRecDepth 100000 in
theorem laws_FnAmounts.calls (k : Nat) (A0 : Option Addr) (c0 : Nat) (l0 : List Int) (r : Bool) (w : World) (hr0 : Kd.C (Kd.int .u8) w A0 l0.length l0) (hc0 : l0.length ≤ c0) (h : laws_FnAmounts.f k l0 = some r) :
    Calls Tryd.prog 5 #[.slice A0 l0.length c0] w fun e w' => e = .returned (.bool r) ∧ Below w.heap.size w w' := by
  have HR0 := Aside0.mk hr0
  have HC0 := Aside0.mk hc0
  clear hr0 hc0
  have HB := Aside0.mk (Below.refl w.heap.size w)
  have H : ((laws_big.f l0).bind fun t324 => (if t324 = true then (some true) else ((spec_DrawAmountText.f k l0).bind fun t325 => ((impl_AmountText.f k t325).bind fun t326 => ((impl_ParseAmount.f k t326).bind fun bt327 => (if t325 < 0 then (if t326.toList = ([] : List UInt8) then (some (!bt327.2)) else (some false)) else (if t325 > 1000000000000000 then (if t326.toList = ([] : List UInt8) then (some (!bt327.2)) else (some false)) else (if bt327.2 = true then (if bt327.1 = t325 then (some (decide ((t326.size : Int) > 0))) else (some false)) else (some false))))))))) = some r := h
  clear h
  replace H := Option.bind_eq_some_iff.mp H
  obtain ⟨t324, A20, H⟩ := H
  replace H : (if t324 = true then (some true) else ((spec_DrawAmountText.f k l0).bind fun t325 => ((impl_AmountText.f k t325).bind fun t326 => ((impl_ParseAmount.f k t326).bind fun bt327 => (if t325 < 0 then (if t326.toList = ([] : List UInt8) then (some (!bt327.2)) else (some false)) else (if t325 > 1000000000000000 then (if t326.toList = ([] : List UInt8) then (some (!bt327.2)) else (some false)) else (if bt327.2 = true then (if bt327.1 = t325 then (some (decide ((t326.size : Int) > 0))) else (some false)) else (some false)))))))) = some r := H
  have A2 := Aside0.mk A20
  clear A20
  by_cases c3 : t324 = true
  · subst c3
    have H1 : (some true) = some r := by rw [if_pos rfl] at H; exact H
    clear H
    have H := H1
    clear H1
    obtain rfl := Option.some.inj H
    go_enter Tryd.func5, Tryd.ntmps5
    go_wp2_with (first | ((with_reducible refine gate_callee (f := 13) rfl ?_); refine goesL_ (some 8) rfl rfl Tryd.func13 (by kernel_rfl) rfl #[.slice A0 l0.length c0] rfl (by (try simp only [List.map_toArray, List.map_cons, List.map_nil]); first | done | rfl | (simp only [List.length_drop, List.length_take]; rfl)) ?_; (with_reducible refine (laws_big.calls _ _ l0 true _ ?side1 ?side2 A2.out).mono ?_); (case side1 => repeat (first | exact HR0.out | (with_reducible refine Kd.C_alloc ?_ _) | (with_reducible refine Kd.C_drewN ?_ _) | (with_reducible refine Kd.C_drew ?_))); (case side2 => exact HC0.out); rintro e w' ⟨rfl, ⟨nd, rfl⟩⟩; refine ⟨_, rfl, ?_⟩))
    go_ret
    exact ⟨by first | rfl | (simp [errW_none, errW_some] <;> rfl) | (simp [*, errW_none, errW_some] <;> rfl), by repeat (first | (with_reducible first | exact HB.out | apply below_alloc | apply pw_below_drewN | apply below_drew1) | exact HB.out)⟩
  · replace c3 := Bool.eq_false_iff.mpr c3
    subst c3
    have H1 : ((spec_DrawAmountText.f k l0).bind fun t325 => ((impl_AmountText.f k t325).bind fun t326 => ((impl_ParseAmount.f k t326).bind fun bt327 => (if t325 < 0 then (if t326.toList = ([] : List UInt8) then (some (!bt327.2)) else (some false)) else (if t325 > 1000000000000000 then (if t326.toList = ([] : List UInt8) then (some (!bt327.2)) else (some false)) else (if bt327.2 = true then (if bt327.1 = t325 then (some (decide ((t326.size : Int) > 0))) else (some false)) else (some false))))))) = some r := by rw [if_neg (show ¬ (false = true) by decide)] at H; exact H
    clear H
    have H := H1
    clear H1
    replace H := Option.bind_eq_some_iff.mp H
    obtain ⟨t325, A40, H⟩ := H
    replace H : ((impl_AmountText.f k t325).bind fun t326 => ((impl_ParseAmount.f k t326).bind fun bt327 => (if t325 < 0 then (if t326.toList = ([] : List UInt8) then (some (!bt327.2)) else (some false)) else (if t325 > 1000000000000000 then (if t326.toList = ([] : List UInt8) then (some (!bt327.2)) else (some false)) else (if bt327.2 = true then (if bt327.1 = t325 then (some (decide ((t326.size : Int) > 0))) else (some false)) else (some false)))))) = some r := H
    have A4 := Aside0.mk A40
    clear A40
    replace H := Option.bind_eq_some_iff.mp H
    obtain ⟨t326, A50, H⟩ := H
    replace H : ((impl_ParseAmount.f k t326).bind fun bt327 => (if t325 < 0 then (if t326.toList = ([] : List UInt8) then (some (!bt327.2)) else (some false)) else (if t325 > 1000000000000000 then (if t326.toList = ([] : List UInt8) then (some (!bt327.2)) else (some false)) else (if bt327.2 = true then (if bt327.1 = t325 then (some (decide ((t326.size : Int) > 0))) else (some false)) else (some false))))) = some r := H
    have A5 := Aside0.mk A50
    clear A50
    replace H := Option.bind_eq_some_iff.mp H
    obtain ⟨⟨t327, t328⟩, A60, H⟩ := H
    replace H : (if t325 < 0 then (if t326.toList = ([] : List UInt8) then (some (!t328)) else (some false)) else (if t325 > 1000000000000000 then (if t326.toList = ([] : List UInt8) then (some (!t328)) else (some false)) else (if t328 = true then (if t327 = t325 then (some (decide ((t326.size : Int) > 0))) else (some false)) else (some false)))) = some r := H
    have A6 := Aside0.mk A60
    clear A60
    by_cases c7 : t325 < 0
    · rw [if_pos c7] at H
      have c7b0 : decide (t325 < 0) = true := decide_eq_true c7
      clear c7
      by_cases c8 : t326.toList = ([] : List UInt8)
      · rw [if_pos c8] at H
        have c8b0 : (t326.toList == ([] : List UInt8)) = true := beq_iff_eq.mpr c8
        have c8b1 : (t326.toList != ([] : List UInt8)) = false := bne_eq_false_iff_eq.mpr c8
        clear c8
        obtain rfl := Option.some.inj H
        go_enter Tryd.func5, Tryd.ntmps5
        go_wp2_with (first | ((with_reducible refine gate_callee (f := 13) rfl ?_); refine goesL_ (some 8) rfl rfl Tryd.func13 (by kernel_rfl) rfl #[.slice A0 l0.length c0] rfl (by (try simp only [List.map_toArray, List.map_cons, List.map_nil]); first | done | rfl | (simp only [List.length_drop, List.length_take]; rfl)) ?_; (with_reducible refine (laws_big.calls _ _ l0 false _ ?side1 ?side2 A2.out).mono ?_); (case side1 => repeat (first | exact HR0.out | (with_reducible refine Kd.C_alloc ?_ _) | (with_reducible refine Kd.C_drewN ?_ _) | (with_reducible refine Kd.C_drew ?_))); (case side2 => exact HC0.out); rintro e w' ⟨rfl, ⟨nd, rfl⟩⟩; refine ⟨_, rfl, ?_⟩) | ((with_reducible refine gate_callee (f := 14) rfl ?_); refine goesL_ (some 10) rfl rfl Tryd.func14 (by kernel_rfl) rfl #[.slice A0 l0.length c0] rfl (by (try simp only [List.map_toArray, List.map_cons, List.map_nil]); first | done | rfl | (simp only [List.length_drop, List.length_take]; rfl)) ?_; (with_reducible refine (spec_DrawAmountText.calls k _ _ l0 t325 _ ?side1 ?side2 A4.out).mono ?_); (case side1 => repeat (first | exact HR0.out | (with_reducible refine Kd.C_alloc ?_ _) | (with_reducible refine Kd.C_drewN ?_ _) | (with_reducible refine Kd.C_drew ?_))); (case side2 => exact HC0.out); rintro e w9 ⟨rfl, hb⟩; refine ⟨_, rfl, ?_⟩; have n0_ := Aside0.mk (below_step (by repeat (first | (with_reducible first | exact HB.out | apply below_alloc | apply pw_below_drewN | apply below_drew1) | exact HB.out)) hb); clear HB; have HB := n0_; clear n0_; (try clear hb); (try clear hb2); (try clear hk); (try clear hi)) | ((with_reducible refine gate_callee (f := 15) rfl ?_); refine goesL_ (some 12) rfl rfl Tryd.func15 (by kernel_rfl) rfl #[.int .i64 t325] rfl (by (try simp only [List.map_toArray, List.map_cons, List.map_nil]); first | done | rfl | (simp only [List.length_drop, List.length_take]; rfl)) ?_; (with_reducible refine (impl_AmountText.calls k t325 t326 _ A5.out).mono ?_); rintro e w10 ⟨rfl, hb⟩; refine ⟨_, rfl, ?_⟩; have n0_ := Aside0.mk (below_step (by repeat (first | (with_reducible first | exact HB.out | apply below_alloc | apply pw_below_drewN | apply below_drew1) | exact HB.out)) hb); clear HB; have HB := n0_; clear n0_; (try clear hb); (try clear hb2); (try clear hk); (try clear hi)) | ((with_reducible refine gate_callee (f := 7) rfl ?_); refine goesL_ (some 15) rfl rfl Tryd.func7 (by kernel_rfl) rfl #[.string t326] rfl (by (try simp only [List.map_toArray, List.map_cons, List.map_nil]); first | done | rfl | (simp only [List.length_drop, List.length_take]; rfl)) ?_; (with_reducible refine (impl_ParseAmount.calls k t326 t327 t328 _ A6.out).mono ?_); rintro e w11 ⟨rfl, hb⟩; refine ⟨_, rfl, ?_⟩; have n0_ := Aside0.mk (below_step (by repeat (first | (with_reducible first | exact HB.out | apply below_alloc | apply pw_below_drewN | apply below_drew1) | exact HB.out)) hb); clear HB; have HB := n0_; clear n0_; (try clear hb); (try clear hb2); (try clear hk); (try clear hi)))
        go_ret
        exact ⟨by first | rfl | (simp [errW_none, errW_some] <;> rfl) | (simp [*, errW_none, errW_some] <;> rfl), by repeat (first | (with_reducible first | exact HB.out | apply below_alloc | apply pw_below_drewN | apply below_drew1) | exact HB.out)⟩
      · rw [if_neg c8] at H
        have c8b0 : (t326.toList == ([] : List UInt8)) = false := beq_eq_false_iff_ne.mpr c8
        have c8b1 : (t326.toList != ([] : List UInt8)) = true := bne_iff_ne.mpr c8
        obtain rfl := Option.some.inj H
        go_enter Tryd.func5, Tryd.ntmps5
        go_wp2_with (first | ((with_reducible refine gate_callee (f := 13) rfl ?_); refine goesL_ (some 8) rfl rfl Tryd.func13 (by kernel_rfl) rfl #[.slice A0 l0.length c0] rfl (by (try simp only [List.map_toArray, List.map_cons, List.map_nil]); first | done | rfl | (simp only [List.length_drop, List.length_take]; rfl)) ?_; (with_reducible refine (laws_big.calls _ _ l0 false _ ?side1 ?side2 A2.out).mono ?_); (case side1 => repeat (first | exact HR0.out | (with_reducible refine Kd.C_alloc ?_ _) | (with_reducible refine Kd.C_drewN ?_ _) | (with_reducible refine Kd.C_drew ?_))); (case side2 => exact HC0.out); rintro e w' ⟨rfl, ⟨nd, rfl⟩⟩; refine ⟨_, rfl, ?_⟩) | ((with_reducible refine gate_callee (f := 14) rfl ?_); refine goesL_ (some 10) rfl rfl Tryd.func14 (by kernel_rfl) rfl #[.slice A0 l0.length c0] rfl (by (try simp only [List.map_toArray, List.map_cons, List.map_nil]); first | done | rfl | (simp only [List.length_drop, List.length_take]; rfl)) ?_; (with_reducible refine (spec_DrawAmountText.calls k _ _ l0 t325 _ ?side1 ?side2 A4.out).mono ?_); (case side1 => repeat (first | exact HR0.out | (with_reducible refine Kd.C_alloc ?_ _) | (with_reducible refine Kd.C_drewN ?_ _) | (with_reducible refine Kd.C_drew ?_))); (case side2 => exact HC0.out); rintro e w12 ⟨rfl, hb⟩; refine ⟨_, rfl, ?_⟩; have n0_ := Aside0.mk (below_step (by repeat (first | (with_reducible first | exact HB.out | apply below_alloc | apply pw_below_drewN | apply below_drew1) | exact HB.out)) hb); clear HB; have HB := n0_; clear n0_; (try clear hb); (try clear hb2); (try clear hk); (try clear hi)) | ((with_reducible refine gate_callee (f := 15) rfl ?_); refine goesL_ (some 12) rfl rfl Tryd.func15 (by kernel_rfl) rfl #[.int .i64 t325] rfl (by (try simp only [List.map_toArray, List.map_cons, List.map_nil]); first | done | rfl | (simp only [List.length_drop, List.length_take]; rfl)) ?_; (with_reducible refine (impl_AmountText.calls k t325 t326 _ A5.out).mono ?_); rintro e w13 ⟨rfl, hb⟩; refine ⟨_, rfl, ?_⟩; have n0_ := Aside0.mk (below_step (by repeat (first | (with_reducible first | exact HB.out | apply below_alloc | apply pw_below_drewN | apply below_drew1) | exact HB.out)) hb); clear HB; have HB := n0_; clear n0_; (try clear hb); (try clear hb2); (try clear hk); (try clear hi)) | ((with_reducible refine gate_callee (f := 7) rfl ?_); refine goesL_ (some 15) rfl rfl Tryd.func7 (by kernel_rfl) rfl #[.string t326] rfl (by (try simp only [List.map_toArray, List.map_cons, List.map_nil]); first | done | rfl | (simp only [List.length_drop, List.length_take]; rfl)) ?_; (with_reducible refine (impl_ParseAmount.calls k t326 t327 t328 _ A6.out).mono ?_); rintro e w14 ⟨rfl, hb⟩; refine ⟨_, rfl, ?_⟩; have n0_ := Aside0.mk (below_step (by repeat (first | (with_reducible first | exact HB.out | apply below_alloc | apply pw_below_drewN | apply below_drew1) | exact HB.out)) hb); clear HB; have HB := n0_; clear n0_; (try clear hb); (try clear hb2); (try clear hk); (try clear hi)))
        go_ret
        exact ⟨by first | rfl | (simp [errW_none, errW_some] <;> rfl) | (simp [*, errW_none, errW_some] <;> rfl), by repeat (first | (with_reducible first | exact HB.out | apply below_alloc | apply pw_below_drewN | apply below_drew1) | exact HB.out)⟩
    · rw [if_neg c7] at H
      have c7b0 : decide (t325 < 0) = false := decide_eq_false c7
      clear c7
      by_cases c15 : t325 > 1000000000000000
      · rw [if_pos c15] at H
        have c15b0 : decide (1000000000000000 < t325) = true := decide_eq_true c15
        clear c15
        by_cases c16 : t326.toList = ([] : List UInt8)
        · rw [if_pos c16] at H
          have c16b0 : (t326.toList == ([] : List UInt8)) = true := beq_iff_eq.mpr c16
          have c16b1 : (t326.toList != ([] : List UInt8)) = false := bne_eq_false_iff_eq.mpr c16
          clear c16
          obtain rfl := Option.some.inj H
          go_enter Tryd.func5, Tryd.ntmps5
          go_wp2_with (first | ((with_reducible refine gate_callee (f := 13) rfl ?_); refine goesL_ (some 8) rfl rfl Tryd.func13 (by kernel_rfl) rfl #[.slice A0 l0.length c0] rfl (by (try simp only [List.map_toArray, List.map_cons, List.map_nil]); first | done | rfl | (simp only [List.length_drop, List.length_take]; rfl)) ?_; (with_reducible refine (laws_big.calls _ _ l0 false _ ?side1 ?side2 A2.out).mono ?_); (case side1 => repeat (first | exact HR0.out | (with_reducible refine Kd.C_alloc ?_ _) | (with_reducible refine Kd.C_drewN ?_ _) | (with_reducible refine Kd.C_drew ?_))); (case side2 => exact HC0.out); rintro e w' ⟨rfl, ⟨nd, rfl⟩⟩; refine ⟨_, rfl, ?_⟩) | ((with_reducible refine gate_callee (f := 14) rfl ?_); refine goesL_ (some 10) rfl rfl Tryd.func14 (by kernel_rfl) rfl #[.slice A0 l0.length c0] rfl (by (try simp only [List.map_toArray, List.map_cons, List.map_nil]); first | done | rfl | (simp only [List.length_drop, List.length_take]; rfl)) ?_; (with_reducible refine (spec_DrawAmountText.calls k _ _ l0 t325 _ ?side1 ?side2 A4.out).mono ?_); (case side1 => repeat (first | exact HR0.out | (with_reducible refine Kd.C_alloc ?_ _) | (with_reducible refine Kd.C_drewN ?_ _) | (with_reducible refine Kd.C_drew ?_))); (case side2 => exact HC0.out); rintro e w17 ⟨rfl, hb⟩; refine ⟨_, rfl, ?_⟩; have n0_ := Aside0.mk (below_step (by repeat (first | (with_reducible first | exact HB.out | apply below_alloc | apply pw_below_drewN | apply below_drew1) | exact HB.out)) hb); clear HB; have HB := n0_; clear n0_; (try clear hb); (try clear hb2); (try clear hk); (try clear hi)) | ((with_reducible refine gate_callee (f := 15) rfl ?_); refine goesL_ (some 12) rfl rfl Tryd.func15 (by kernel_rfl) rfl #[.int .i64 t325] rfl (by (try simp only [List.map_toArray, List.map_cons, List.map_nil]); first | done | rfl | (simp only [List.length_drop, List.length_take]; rfl)) ?_; (with_reducible refine (impl_AmountText.calls k t325 t326 _ A5.out).mono ?_); rintro e w18 ⟨rfl, hb⟩; refine ⟨_, rfl, ?_⟩; have n0_ := Aside0.mk (below_step (by repeat (first | (with_reducible first | exact HB.out | apply below_alloc | apply pw_below_drewN | apply below_drew1) | exact HB.out)) hb); clear HB; have HB := n0_; clear n0_; (try clear hb); (try clear hb2); (try clear hk); (try clear hi)) | ((with_reducible refine gate_callee (f := 7) rfl ?_); refine goesL_ (some 15) rfl rfl Tryd.func7 (by kernel_rfl) rfl #[.string t326] rfl (by (try simp only [List.map_toArray, List.map_cons, List.map_nil]); first | done | rfl | (simp only [List.length_drop, List.length_take]; rfl)) ?_; (with_reducible refine (impl_ParseAmount.calls k t326 t327 t328 _ A6.out).mono ?_); rintro e w19 ⟨rfl, hb⟩; refine ⟨_, rfl, ?_⟩; have n0_ := Aside0.mk (below_step (by repeat (first | (with_reducible first | exact HB.out | apply below_alloc | apply pw_below_drewN | apply below_drew1) | exact HB.out)) hb); clear HB; have HB := n0_; clear n0_; (try clear hb); (try clear hb2); (try clear hk); (try clear hi)))
          go_ret
          exact ⟨by first | rfl | (simp [errW_none, errW_some] <;> rfl) | (simp [*, errW_none, errW_some] <;> rfl), by repeat (first | (with_reducible first | exact HB.out | apply below_alloc | apply pw_below_drewN | apply below_drew1) | exact HB.out)⟩
        · rw [if_neg c16] at H
          have c16b0 : (t326.toList == ([] : List UInt8)) = false := beq_eq_false_iff_ne.mpr c16
          have c16b1 : (t326.toList != ([] : List UInt8)) = true := bne_iff_ne.mpr c16
          obtain rfl := Option.some.inj H
          go_enter Tryd.func5, Tryd.ntmps5
          go_wp2_with (first | ((with_reducible refine gate_callee (f := 13) rfl ?_); refine goesL_ (some 8) rfl rfl Tryd.func13 (by kernel_rfl) rfl #[.slice A0 l0.length c0] rfl (by (try simp only [List.map_toArray, List.map_cons, List.map_nil]); first | done | rfl | (simp only [List.length_drop, List.length_take]; rfl)) ?_; (with_reducible refine (laws_big.calls _ _ l0 false _ ?side1 ?side2 A2.out).mono ?_); (case side1 => repeat (first | exact HR0.out | (with_reducible refine Kd.C_alloc ?_ _) | (with_reducible refine Kd.C_drewN ?_ _) | (with_reducible refine Kd.C_drew ?_))); (case side2 => exact HC0.out); rintro e w' ⟨rfl, ⟨nd, rfl⟩⟩; refine ⟨_, rfl, ?_⟩) | ((with_reducible refine gate_callee (f := 14) rfl ?_); refine goesL_ (some 10) rfl rfl Tryd.func14 (by kernel_rfl) rfl #[.slice A0 l0.length c0] rfl (by (try simp only [List.map_toArray, List.map_cons, List.map_nil]); first | done | rfl | (simp only [List.length_drop, List.length_take]; rfl)) ?_; (with_reducible refine (spec_DrawAmountText.calls k _ _ l0 t325 _ ?side1 ?side2 A4.out).mono ?_); (case side1 => repeat (first | exact HR0.out | (with_reducible refine Kd.C_alloc ?_ _) | (with_reducible refine Kd.C_drewN ?_ _) | (with_reducible refine Kd.C_drew ?_))); (case side2 => exact HC0.out); rintro e w20 ⟨rfl, hb⟩; refine ⟨_, rfl, ?_⟩; have n0_ := Aside0.mk (below_step (by repeat (first | (with_reducible first | exact HB.out | apply below_alloc | apply pw_below_drewN | apply below_drew1) | exact HB.out)) hb); clear HB; have HB := n0_; clear n0_; (try clear hb); (try clear hb2); (try clear hk); (try clear hi)) | ((with_reducible refine gate_callee (f := 15) rfl ?_); refine goesL_ (some 12) rfl rfl Tryd.func15 (by kernel_rfl) rfl #[.int .i64 t325] rfl (by (try simp only [List.map_toArray, List.map_cons, List.map_nil]); first | done | rfl | (simp only [List.length_drop, List.length_take]; rfl)) ?_; (with_reducible refine (impl_AmountText.calls k t325 t326 _ A5.out).mono ?_); rintro e w21 ⟨rfl, hb⟩; refine ⟨_, rfl, ?_⟩; have n0_ := Aside0.mk (below_step (by repeat (first | (with_reducible first | exact HB.out | apply below_alloc | apply pw_below_drewN | apply below_drew1) | exact HB.out)) hb); clear HB; have HB := n0_; clear n0_; (try clear hb); (try clear hb2); (try clear hk); (try clear hi)) | ((with_reducible refine gate_callee (f := 7) rfl ?_); refine goesL_ (some 15) rfl rfl Tryd.func7 (by kernel_rfl) rfl #[.string t326] rfl (by (try simp only [List.map_toArray, List.map_cons, List.map_nil]); first | done | rfl | (simp only [List.length_drop, List.length_take]; rfl)) ?_; (with_reducible refine (impl_ParseAmount.calls k t326 t327 t328 _ A6.out).mono ?_); rintro e w22 ⟨rfl, hb⟩; refine ⟨_, rfl, ?_⟩; have n0_ := Aside0.mk (below_step (by repeat (first | (with_reducible first | exact HB.out | apply below_alloc | apply pw_below_drewN | apply below_drew1) | exact HB.out)) hb); clear HB; have HB := n0_; clear n0_; (try clear hb); (try clear hb2); (try clear hk); (try clear hi)))
          go_ret
          exact ⟨by first | rfl | (simp [errW_none, errW_some] <;> rfl) | (simp [*, errW_none, errW_some] <;> rfl), by repeat (first | (with_reducible first | exact HB.out | apply below_alloc | apply pw_below_drewN | apply below_drew1) | exact HB.out)⟩
      · rw [if_neg c15] at H
        have c15b0 : decide (1000000000000000 < t325) = false := decide_eq_false c15
        clear c15
        by_cases c23 : t328 = true
        · subst c23
          have H1 : (if t327 = t325 then (some (decide ((t326.size : Int) > 0))) else (some false)) = some r := by rw [if_pos rfl] at H; exact H
          clear H
          have H := H1
          clear H1
          by_cases c24 : t327 = t325
          · rw [if_pos c24] at H
            have c24b0 : (t327 == t325) = true := beq_iff_eq.mpr c24
            have c24b1 : (t327 != t325) = false := bne_eq_false_iff_eq.mpr c24
            clear c24
            obtain rfl := Option.some.inj H
            go_enter Tryd.func5, Tryd.ntmps5
            go_wp2_with (first | ((with_reducible refine gate_callee (f := 13) rfl ?_); refine goesL_ (some 8) rfl rfl Tryd.func13 (by kernel_rfl) rfl #[.slice A0 l0.length c0] rfl (by (try simp only [List.map_toArray, List.map_cons, List.map_nil]); first | done | rfl | (simp only [List.length_drop, List.length_take]; rfl)) ?_; (with_reducible refine (laws_big.calls _ _ l0 false _ ?side1 ?side2 A2.out).mono ?_); (case side1 => repeat (first | exact HR0.out | (with_reducible refine Kd.C_alloc ?_ _) | (with_reducible refine Kd.C_drewN ?_ _) | (with_reducible refine Kd.C_drew ?_))); (case side2 => exact HC0.out); rintro e w' ⟨rfl, ⟨nd, rfl⟩⟩; refine ⟨_, rfl, ?_⟩) | ((with_reducible refine gate_callee (f := 14) rfl ?_); refine goesL_ (some 10) rfl rfl Tryd.func14 (by kernel_rfl) rfl #[.slice A0 l0.length c0] rfl (by (try simp only [List.map_toArray, List.map_cons, List.map_nil]); first | done | rfl | (simp only [List.length_drop, List.length_take]; rfl)) ?_; (with_reducible refine (spec_DrawAmountText.calls k _ _ l0 t325 _ ?side1 ?side2 A4.out).mono ?_); (case side1 => repeat (first | exact HR0.out | (with_reducible refine Kd.C_alloc ?_ _) | (with_reducible refine Kd.C_drewN ?_ _) | (with_reducible refine Kd.C_drew ?_))); (case side2 => exact HC0.out); rintro e w25 ⟨rfl, hb⟩; refine ⟨_, rfl, ?_⟩; have n0_ := Aside0.mk (below_step (by repeat (first | (with_reducible first | exact HB.out | apply below_alloc | apply pw_below_drewN | apply below_drew1) | exact HB.out)) hb); clear HB; have HB := n0_; clear n0_; (try clear hb); (try clear hb2); (try clear hk); (try clear hi)) | ((with_reducible refine gate_callee (f := 15) rfl ?_); refine goesL_ (some 12) rfl rfl Tryd.func15 (by kernel_rfl) rfl #[.int .i64 t325] rfl (by (try simp only [List.map_toArray, List.map_cons, List.map_nil]); first | done | rfl | (simp only [List.length_drop, List.length_take]; rfl)) ?_; (with_reducible refine (impl_AmountText.calls k t325 t326 _ A5.out).mono ?_); rintro e w26 ⟨rfl, hb⟩; refine ⟨_, rfl, ?_⟩; have n0_ := Aside0.mk (below_step (by repeat (first | (with_reducible first | exact HB.out | apply below_alloc | apply pw_below_drewN | apply below_drew1) | exact HB.out)) hb); clear HB; have HB := n0_; clear n0_; (try clear hb); (try clear hb2); (try clear hk); (try clear hi)) | ((with_reducible refine gate_callee (f := 7) rfl ?_); refine goesL_ (some 15) rfl rfl Tryd.func7 (by kernel_rfl) rfl #[.string t326] rfl (by (try simp only [List.map_toArray, List.map_cons, List.map_nil]); first | done | rfl | (simp only [List.length_drop, List.length_take]; rfl)) ?_; (with_reducible refine (impl_ParseAmount.calls k t326 t327 true _ A6.out).mono ?_); rintro e w27 ⟨rfl, hb⟩; refine ⟨_, rfl, ?_⟩; have n0_ := Aside0.mk (below_step (by repeat (first | (with_reducible first | exact HB.out | apply below_alloc | apply pw_below_drewN | apply below_drew1) | exact HB.out)) hb); clear HB; have HB := n0_; clear n0_; (try clear hb); (try clear hb2); (try clear hk); (try clear hi)))
            go_ret
            exact ⟨by first | rfl | (simp [errW_none, errW_some] <;> rfl) | (simp [*, errW_none, errW_some] <;> rfl), by repeat (first | (with_reducible first | exact HB.out | apply below_alloc | apply pw_below_drewN | apply below_drew1) | exact HB.out)⟩
          · rw [if_neg c24] at H
            have c24b0 : (t327 == t325) = false := beq_eq_false_iff_ne.mpr c24
            have c24b1 : (t327 != t325) = true := bne_iff_ne.mpr c24
            obtain rfl := Option.some.inj H
            go_enter Tryd.func5, Tryd.ntmps5
            go_wp2_with (first | ((with_reducible refine gate_callee (f := 13) rfl ?_); refine goesL_ (some 8) rfl rfl Tryd.func13 (by kernel_rfl) rfl #[.slice A0 l0.length c0] rfl (by (try simp only [List.map_toArray, List.map_cons, List.map_nil]); first | done | rfl | (simp only [List.length_drop, List.length_take]; rfl)) ?_; (with_reducible refine (laws_big.calls _ _ l0 false _ ?side1 ?side2 A2.out).mono ?_); (case side1 => repeat (first | exact HR0.out | (with_reducible refine Kd.C_alloc ?_ _) | (with_reducible refine Kd.C_drewN ?_ _) | (with_reducible refine Kd.C_drew ?_))); (case side2 => exact HC0.out); rintro e w' ⟨rfl, ⟨nd, rfl⟩⟩; refine ⟨_, rfl, ?_⟩) | ((with_reducible refine gate_callee (f := 14) rfl ?_); refine goesL_ (some 10) rfl rfl Tryd.func14 (by kernel_rfl) rfl #[.slice A0 l0.length c0] rfl (by (try simp only [List.map_toArray, List.map_cons, List.map_nil]); first | done | rfl | (simp only [List.length_drop, List.length_take]; rfl)) ?_; (with_reducible refine (spec_DrawAmountText.calls k _ _ l0 t325 _ ?side1 ?side2 A4.out).mono ?_); (case side1 => repeat (first | exact HR0.out | (with_reducible refine Kd.C_alloc ?_ _) | (with_reducible refine Kd.C_drewN ?_ _) | (with_reducible refine Kd.C_drew ?_))); (case side2 => exact HC0.out); rintro e w28 ⟨rfl, hb⟩; refine ⟨_, rfl, ?_⟩; have n0_ := Aside0.mk (below_step (by repeat (first | (with_reducible first | exact HB.out | apply below_alloc | apply pw_below_drewN | apply below_drew1) | exact HB.out)) hb); clear HB; have HB := n0_; clear n0_; (try clear hb); (try clear hb2); (try clear hk); (try clear hi)) | ((with_reducible refine gate_callee (f := 15) rfl ?_); refine goesL_ (some 12) rfl rfl Tryd.func15 (by kernel_rfl) rfl #[.int .i64 t325] rfl (by (try simp only [List.map_toArray, List.map_cons, List.map_nil]); first | done | rfl | (simp only [List.length_drop, List.length_take]; rfl)) ?_; (with_reducible refine (impl_AmountText.calls k t325 t326 _ A5.out).mono ?_); rintro e w29 ⟨rfl, hb⟩; refine ⟨_, rfl, ?_⟩; have n0_ := Aside0.mk (below_step (by repeat (first | (with_reducible first | exact HB.out | apply below_alloc | apply pw_below_drewN | apply below_drew1) | exact HB.out)) hb); clear HB; have HB := n0_; clear n0_; (try clear hb); (try clear hb2); (try clear hk); (try clear hi)) | ((with_reducible refine gate_callee (f := 7) rfl ?_); refine goesL_ (some 15) rfl rfl Tryd.func7 (by kernel_rfl) rfl #[.string t326] rfl (by (try simp only [List.map_toArray, List.map_cons, List.map_nil]); first | done | rfl | (simp only [List.length_drop, List.length_take]; rfl)) ?_; (with_reducible refine (impl_ParseAmount.calls k t326 t327 true _ A6.out).mono ?_); rintro e w30 ⟨rfl, hb⟩; refine ⟨_, rfl, ?_⟩; have n0_ := Aside0.mk (below_step (by repeat (first | (with_reducible first | exact HB.out | apply below_alloc | apply pw_below_drewN | apply below_drew1) | exact HB.out)) hb); clear HB; have HB := n0_; clear n0_; (try clear hb); (try clear hb2); (try clear hk); (try clear hi)))
            go_ret
            exact ⟨by first | rfl | (simp [errW_none, errW_some] <;> rfl) | (simp [*, errW_none, errW_some] <;> rfl), by repeat (first | (with_reducible first | exact HB.out | apply below_alloc | apply pw_below_drewN | apply below_drew1) | exact HB.out)⟩
        · replace c23 := Bool.eq_false_iff.mpr c23
          subst c23
          have H1 : (some false) = some r := by rw [if_neg (show ¬ (false = true) by decide)] at H; exact H
          clear H
          have H := H1
          clear H1
          obtain rfl := Option.some.inj H
          go_enter Tryd.func5, Tryd.ntmps5
          go_wp2_with (first | ((with_reducible refine gate_callee (f := 13) rfl ?_); refine goesL_ (some 8) rfl rfl Tryd.func13 (by kernel_rfl) rfl #[.slice A0 l0.length c0] rfl (by (try simp only [List.map_toArray, List.map_cons, List.map_nil]); first | done | rfl | (simp only [List.length_drop, List.length_take]; rfl)) ?_; (with_reducible refine (laws_big.calls _ _ l0 false _ ?side1 ?side2 A2.out).mono ?_); (case side1 => repeat (first | exact HR0.out | (with_reducible refine Kd.C_alloc ?_ _) | (with_reducible refine Kd.C_drewN ?_ _) | (with_reducible refine Kd.C_drew ?_))); (case side2 => exact HC0.out); rintro e w' ⟨rfl, ⟨nd, rfl⟩⟩; refine ⟨_, rfl, ?_⟩) | ((with_reducible refine gate_callee (f := 14) rfl ?_); refine goesL_ (some 10) rfl rfl Tryd.func14 (by kernel_rfl) rfl #[.slice A0 l0.length c0] rfl (by (try simp only [List.map_toArray, List.map_cons, List.map_nil]); first | done | rfl | (simp only [List.length_drop, List.length_take]; rfl)) ?_; (with_reducible refine (spec_DrawAmountText.calls k _ _ l0 t325 _ ?side1 ?side2 A4.out).mono ?_); (case side1 => repeat (first | exact HR0.out | (with_reducible refine Kd.C_alloc ?_ _) | (with_reducible refine Kd.C_drewN ?_ _) | (with_reducible refine Kd.C_drew ?_))); (case side2 => exact HC0.out); rintro e w31 ⟨rfl, hb⟩; refine ⟨_, rfl, ?_⟩; have n0_ := Aside0.mk (below_step (by repeat (first | (with_reducible first | exact HB.out | apply below_alloc | apply pw_below_drewN | apply below_drew1) | exact HB.out)) hb); clear HB; have HB := n0_; clear n0_; (try clear hb); (try clear hb2); (try clear hk); (try clear hi)) | ((with_reducible refine gate_callee (f := 15) rfl ?_); refine goesL_ (some 12) rfl rfl Tryd.func15 (by kernel_rfl) rfl #[.int .i64 t325] rfl (by (try simp only [List.map_toArray, List.map_cons, List.map_nil]); first | done | rfl | (simp only [List.length_drop, List.length_take]; rfl)) ?_; (with_reducible refine (impl_AmountText.calls k t325 t326 _ A5.out).mono ?_); rintro e w32 ⟨rfl, hb⟩; refine ⟨_, rfl, ?_⟩; have n0_ := Aside0.mk (below_step (by repeat (first | (with_reducible first | exact HB.out | apply below_alloc | apply pw_below_drewN | apply below_drew1) | exact HB.out)) hb); clear HB; have HB := n0_; clear n0_; (try clear hb); (try clear hb2); (try clear hk); (try clear hi)) | ((with_reducible refine gate_callee (f := 7) rfl ?_); refine goesL_ (some 15) rfl rfl Tryd.func7 (by kernel_rfl) rfl #[.string t326] rfl (by (try simp only [List.map_toArray, List.map_cons, List.map_nil]); first | done | rfl | (simp only [List.length_drop, List.length_take]; rfl)) ?_; (with_reducible refine (impl_ParseAmount.calls k t326 t327 false _ A6.out).mono ?_); rintro e w33 ⟨rfl, hb⟩; refine ⟨_, rfl, ?_⟩; have n0_ := Aside0.mk (below_step (by repeat (first | (with_reducible first | exact HB.out | apply below_alloc | apply pw_below_drewN | apply below_drew1) | exact HB.out)) hb); clear HB; have HB := n0_; clear n0_; (try clear hb); (try clear hb2); (try clear hk); (try clear hi)))
          go_ret
          exact ⟨by first | rfl | (simp [errW_none, errW_some] <;> rfl) | (simp [*, errW_none, errW_some] <;> rfl), by repeat (first | (with_reducible first | exact HB.out | apply below_alloc | apply pw_below_drewN | apply below_drew1) | exact HB.out)⟩

end Go.Proofs.YtchhognpijobcaaDoor.G

/- PAmt -/
/-
  The law FnAmounts: a drawn amount comes back of its text.
-/
namespace Go.Proofs.YtchhognpijobcaaDoor.G
open Go.RowKit Go.Proofs.YtchhognpijobcaaDoorW.PrintWords Go.Proofs.YtchhognpijobcaaDoorW.PrintLast Go.Proofs.YtchhognpijobcaaDoorW.PrintMore
set_option linter.unusedVariables false
set_option linter.unusedSimpArgs false
/-! ### decimal texts -/
def decL (n : Nat) : List UInt8 := (decT n).data.toList
theorem decL_lt {n : Nat} (h : n < 10) : decL n = [UInt8.ofNat (48 + n)] := by unfold decL; rw [decT_lt h]; rfl
theorem decL_ge {n : Nat} (h : ¬ n < 10) : decL n = decL (n / 10) ++ [UInt8.ofNat (48 + n % 10)] := by
  unfold decL
  rw [decT_ge h, ByteArray.data_append, Array.toList_append]; rfl
theorem dgt {d : Nat} (h : d < 10) : (UInt8.ofNat (48 + d)).toNat = 48 + d := by rw [UInt8.toNat_ofNat']; omega
theorem decL_isD (n : Nat) : ∀ b ∈ decL n, isD b = true := by
  induction n using Nat.strongRecOn with
  | _ n ih =>
    intro b hb
    by_cases h : n < 10
    · rw [decL_lt h, List.mem_singleton] at hb
      rw [hb]; unfold isD; rw [dgt h, decide_eq_true_iff]; omega
    · rw [decL_ge h] at hb
      rcases List.mem_append.1 hb with hb | hb
      · exact ih (n / 10) (by omega) b hb
      · rw [List.mem_singleton] at hb
        rw [hb]; unfold isD; rw [dgt (by omega : n % 10 < 10), decide_eq_true_iff]; omega
theorem decL_len : ∀ (k n : Nat), n < 10 ^ (k + 1) → (decL n).length ≤ k + 1
  | 0, n, h => by rw [decL_lt (by simpa using h)]; simp
  | k + 1, n, h => by
    by_cases h10 : n < 10
    · rw [decL_lt h10]; simp
    · rw [decL_ge h10, List.length_append]
      have := decL_len k (n / 10) (by rw [Nat.pow_succ] at h; omega)
      simp; omega
theorem decL_pos (n : Nat) : 0 < (decL n).length := by
  by_cases h10 : n < 10
  · rw [decL_lt h10]; simp
  · rw [decL_ge h10]; simp
theorem decL_head (n : Nat) (h : 1 ≤ n) : ∃ b, (decL n).head? = some b ∧ b.toNat ≠ 48 := by
  induction n using Nat.strongRecOn with
  | _ n ih =>
    by_cases h10 : n < 10
    · exact ⟨_, by rw [decL_lt h10]; rfl, by rw [dgt h10]; omega⟩
    · obtain ⟨b, hb, hne⟩ := ih (n / 10) (by omega) (by omega)
      refine ⟨b, ?_, hne⟩
      rw [decL_ge h10, List.head?_append, hb]; rfl
/-- What a list of digits says. -/
def valL : List UInt8 → Int := fun l => l.foldl (fun v b => v * 10 + (((b.toNat : Int) - 48) % 256)) 0
theorem valL_snoc (l : List UInt8) (b : UInt8) : valL (l ++ [b]) = valL l * 10 + (((b.toNat : Int) - 48) % 256) := by unfold valL; rw [List.foldl_append]; rfl
theorem valL_dec (n : Nat) : valL (decL n) = n := by
  induction n using Nat.strongRecOn with
  | _ n ih =>
    by_cases h10 : n < 10
    · rw [decL_lt h10]
      show (0 : Int) * 10 + ((((UInt8.ofNat (48 + n)).toNat : Int) - 48) % 256) = n
      rw [dgt h10]; omega
    · rw [decL_ge h10, valL_snoc, ih (n / 10) (by omega), dgt (by omega : n % 10 < 10)]; omega
theorem valI_list (s : ByteArray) : ∀ i, i ≤ s.size → valI s i = valL (s.data.toList.take i)
  | 0, _ => by simp [valI, valL]
  | i + 1, h => by
    rw [valI, valI_list s i (by omega), List.take_succ_eq_append_getElem (by rw [size_len]; omega), valL_snoc]
    unfold dig
    rw [bt_list (by omega)]
theorem parsed_of (s : ByteArray) (v : Nat) (u : List UInt8) (hs : s.data.toList = decL v ++ u) (hu : u.takeWhile isD = []) (hv : v ≤ 1000000000000000) : parsed s = amtOf v (unitZ u) := by
  have htw : s.data.toList.takeWhile isD = decL v := by
    rw [hs, List.takeWhile_append_of_pos (decL_isD v), hu, List.append_nil]
  have hl : lead s = (decL v).length := by unfold lead; rw [htw]
  have hlen := decL_len 15 v (by omega)
  have hpos := decL_pos v
  have hsz : (decL v).length ≤ s.size := by rw [← size_len, hs, List.length_append]; omega
  have hval : valI s (lead s) = v := by
    rw [hl, valI_list s _ hsz, hs, List.take_left, valL_dec]
  have hdrop : s.data.toList.drop (lead s) = u := by rw [hl, hs, List.drop_left]
  have hok : headOk s = true := by
    unfold headOk
    rw [hl, Bool.and_eq_true]
    refine ⟨by unfold inB; rw [decide_eq_true_iff]; omega, ?_⟩
    rw [Bool.not_eq_true', Bool.and_eq_false_iff]
    by_cases h1 : v < 10
    · left; rw [decL_lt h1]; rfl
    · right
      rw [beq_eq_false_iff_ne]
      intro e
      obtain ⟨b, hb, hne⟩ := decL_head v (by omega)
      have h0 : 0 < s.size := by omega
      have hbt := bt_list (s := s) (i := 0) h0
      have hg : (s.data.toList)[0]? = some b := by
        rw [hs, ← List.head?_eq_getElem?, List.head?_append, hb]; rfl
      have hg2 := List.getElem?_eq_getElem (l := s.data.toList) (i := 0) (by rw [size_len]; exact h0)
      rw [hg] at hg2
      have e2 := Option.some.inj hg2
      rw [← e2] at hbt
      have hbt' : bt s 0 = (b.toNat : Int) := hbt
      rw [hbt'] at e
      exact hne (by omega)
  unfold parsed
  rw [hok, if_pos rfl, hval, hdrop]
theorem parsed_empty : parsed ⟨#[]⟩ = (0, false) := by
  have : headOk ⟨#[]⟩ = false := by decide
  unfold parsed
  rw [this]; rfl
/-! ### an amount's text -/
def amtT (n : Int) : ByteArray :=
  if 0 ≤ n ∧ n ≤ 1000000000000000 then
    if n % 1000 = 0 then
      if n = 0 then ⟨#[48]⟩
      else if n / 1000 % 1073741824 = 0 then decT (n / 1000 / 1073741824).toNat ++ ⟨#[71, 105]⟩
      else if n / 1000 % 1048576 = 0 then decT (n / 1000 / 1048576).toNat ++ ⟨#[77, 105]⟩
      else if n / 1000 % 1024 = 0 then decT (n / 1000 / 1024).toNat ++ ⟨#[75, 105]⟩
      else decT (n / 1000).toNat
    else decT n.toNat ++ ⟨#[109]⟩
  else ⟨#[]⟩
theorem decimal_f {z : Int} (h0 : 0 ≤ z) (h1 : z ≤ 9223372036854775807) : impl_decimal.f z = some (decT z.toNat) := by
  unfold impl_decimal.f decS
  rw [if_pos (by omega), if_neg (by omega)]
theorem amtText_ev (n : Int) (h : -9223372036854775808 ≤ n ∧ n ≤ 9223372036854775807) : Ev (fun k => impl_AmountText.f k n) (amtT n) := by
  unfold impl_AmountText.f amtT
  have hA : impl_isAmount.f n = some (inB n 0 1000000000000000) := by unfold impl_isAmount.f; rw [within_f]; rfl
  refine Ev.bind (ev_now hA) ?_
  by_cases c : 0 ≤ n ∧ n ≤ 1000000000000000
  · rw [if_pos c]
    refine ev_if_pos (decide_eq_true c) ?_
    rw [Int.tmod_eq_emod_of_nonneg c.1, Int.tdiv_eq_ediv_of_nonneg c.1, w64 (x := n / 1000) (by omega) (by omega)]
    by_cases c1 : n % 1000 = 0
    · rw [if_pos c1]
      refine ev_if_pos c1 ?_
      by_cases c2 : n = 0
      · rw [if_pos c2]; exact ev_if_pos c2 (Ev.now _)
      · rw [if_neg c2]
        refine ev_if_neg c2 ?_
        simp only [Option.bind_some]
        generalize hm : n / 1000 = m
        have hm0 : 1 ≤ m ∧ m ≤ 1000000000000 := by omega
        have s0 : shl .i64 1 (wrap64 (30 - wrap64 (10 * 0))) = 1073741824 := by decide +kernel
        have s1 : shl .i64 1 (wrap64 (30 - wrap64 (10 * 1))) = 1048576 := by decide +kernel
        have s2 : shl .i64 1 (wrap64 (30 - wrap64 (10 * 2))) = 1024 := by decide +kernel
        have w0 : 0 ≤ wrap64 (30 - wrap64 (10 * 0)) ∧ 0 ≤ wrap64 (30 - wrap64 (10 * 1)) ∧ 0 ≤ wrap64 (30 - wrap64 (10 * 2)) := by decide +kernel
        have n0 : wrap64 ((0 : Int) + 1) = 1 ∧ wrap64 ((1 : Int) + 1) = 2 ∧ wrap64 ((2 : Int) + 1) = 3 := by decide +kernel
        have fin : Ev (fun k => impl_AmountText.l0 k m [(⟨#[71, 105]⟩ : ByteArray), ⟨#[77, 105]⟩, ⟨#[75, 105]⟩] 3 3) (decT m.toNat) := by
          refine Ev.step (fun k => by rw [impl_AmountText.l0]) (ev_if_neg (by omega) ?_)
          rw [decimal_f (by omega) (by omega)]
          exact Ev.now _
        have step : ∀ (i z : Int) (u : ByteArray) (r : ByteArray), 0 ≤ i → i < 3 → shl .i64 1 (wrap64 (30 - wrap64 (10 * i))) = z → 0 ≤ wrap64 (30 - wrap64 (10 * i)) → (z = 1073741824 ∨ z = 1048576 ∨ z = 1024) → rdOf ByteArray.empty [(⟨#[71, 105]⟩ : ByteArray), ⟨#[77, 105]⟩, ⟨#[75, 105]⟩] i = u → u.size = 2 →
            Ev (fun k => impl_AmountText.l0 k m [(⟨#[71, 105]⟩ : ByteArray), ⟨#[77, 105]⟩, ⟨#[75, 105]⟩] 3 (wrap64 (i + 1))) r →
            Ev (fun k => impl_AmountText.l0 k m [(⟨#[71, 105]⟩ : ByteArray), ⟨#[77, 105]⟩, ⟨#[75, 105]⟩] 3 i) (if m % z = 0 then decT (m / z).toNat ++ u else r) := by
          intro i z u r hi hi3 hz hw hzz hu hus hr
          refine Ev.step (fun k => by rw [impl_AmountText.l0]) ?_
          rw [hz, hu]
          refine ev_if_pos hi3 (ev_if_pos hi (ev_if_pos (by show i < ((3 : Nat) : Int); omega) (ev_if_pos hw (ev_if_neg (by omega) ?_))))
          rw [Int.tmod_eq_emod_of_nonneg (by omega), Int.tdiv_eq_ediv_of_nonneg (by omega)]
          by_cases c : m % z = 0
          · rw [if_pos c]
            refine ev_if_pos c ?_
            have hq : 0 ≤ m / z ∧ m / z ≤ 1000000000000 := by rcases hzz with rfl | rfl | rfl <;> omega
            rw [w64 (x := m / z) (by omega) (by omega), decimal_f hq.1 (by omega), Option.bind_some]
            have := decT_small (n := (m / z).toNat) (by omega)
            exact ev_if_pos (by omega) (Ev.now _)
          · rw [if_neg c]; exact ev_if_neg c hr
        have h2 := step 2 1024 ⟨#[75, 105]⟩ _ (by omega) (by omega) s2 w0.2.2 (by omega) rfl rfl (by rw [n0.2.2]; exact fin)
        have h1 := step 1 1048576 ⟨#[77, 105]⟩ _ (by omega) (by omega) s1 w0.2.1 (by omega) rfl rfl (by rw [n0.2.1]; exact h2)
        exact step 0 1073741824 ⟨#[71, 105]⟩ _ (by omega) (by omega) s0 w0.1 (by omega) rfl rfl (by rw [n0.1]; exact h1)
    · rw [if_neg c1]
      refine ev_if_neg c1 ?_
      rw [decimal_f c.1 (by omega), Option.bind_some]
      have := decT_small (n := n.toNat) (by omega)
      exact ev_if_pos (by omega) (Ev.now _)
  · rw [if_neg c]
    exact ev_if_neg (by unfold inB; rw [decide_eq_true_iff]; exact c) (Ev.now _)
theorem app_list (a b : ByteArray) : (a ++ b).data.toList = a.data.toList ++ b.data.toList := by rw [ByteArray.data_append, Array.toList_append]
theorem parsed_amt (n : Int) (h0 : 0 ≤ n) (h1 : n ≤ 1000000000000000) : parsed (amtT n) = (n, true) := by
  unfold amtT
  rw [if_pos ⟨h0, h1⟩]
  have am : ∀ (v : Nat) (u : Int), (u = 1 ∨ u = 1000 ∨ u = 1024000 ∨ u = 1048576000 ∨ u = 1073741824000) → (v : Int) * u = n → amtOf v u = (n, true) := by
    intro v u hu he
    unfold amtOf
    rcases hu with rfl | rfl | rfl | rfl | rfl
    all_goals rw [if_neg (by omega), if_neg (by omega), he]
  by_cases c1 : n % 1000 = 0
  · rw [if_pos c1]
    by_cases c2 : n = 0
    · rw [if_pos c2]
      have := parsed_of ⟨#[48]⟩ 0 [] (by decide +kernel) rfl (by omega)
      rw [this]
      exact am 0 1000 (by omega) (by omega)
    · rw [if_neg c2]
      by_cases c3 : n / 1000 % 1073741824 = 0
      · rw [if_pos c3]
        have := parsed_of (decT (n / 1000 / 1073741824).toNat ++ ⟨#[71, 105]⟩) (n / 1000 / 1073741824).toNat [71, 105] (by rw [app_list]; rfl) (by decide) (by omega)
        rw [this]
        exact am _ 1073741824000 (by omega) (by omega)
      · rw [if_neg c3]
        by_cases c4 : n / 1000 % 1048576 = 0
        · rw [if_pos c4]
          have := parsed_of (decT (n / 1000 / 1048576).toNat ++ ⟨#[77, 105]⟩) (n / 1000 / 1048576).toNat [77, 105] (by rw [app_list]; rfl) (by decide) (by omega)
          rw [this]
          exact am _ 1048576000 (by omega) (by omega)
        · rw [if_neg c4]
          by_cases c5 : n / 1000 % 1024 = 0
          · rw [if_pos c5]
            have := parsed_of (decT (n / 1000 / 1024).toNat ++ ⟨#[75, 105]⟩) (n / 1000 / 1024).toNat [75, 105] (by rw [app_list]; rfl) (by decide) (by omega)
            rw [this]
            exact am _ 1024000 (by omega) (by omega)
          · rw [if_neg c5]
            have := parsed_of (decT (n / 1000).toNat) (n / 1000).toNat [] (by simp [decL]) rfl (by omega)
            rw [this]
            exact am _ 1000 (by omega) (by omega)
  · rw [if_neg c1]
    have := parsed_of (decT n.toNat ++ ⟨#[109]⟩) n.toNat [109] (by rw [app_list]; rfl) (by decide) (by omega)
    rw [this]
    exact am _ 1 (by omega) (by omega)
theorem amtT_size (n : Int) : (amtT n).size ≤ 9223372036854775807 ∧ (0 ≤ n → n ≤ 1000000000000000 → 0 < (amtT n).size) := by
  have hd : ∀ m : Nat, 0 < (decT m).size := fun m => by have := decL_pos m; unfold decL at this; rwa [size_len] at this
  unfold amtT
  by_cases c : 0 ≤ n ∧ n ≤ 1000000000000000
  · rw [if_pos c]
    have b : ∀ z : Int, 0 ≤ z → z ≤ 1000000000000000 → (decT z.toNat).size ≤ 20 := fun z h0 h1 => decT_small (by omega)
    have hz : (⟨#[48]⟩ : ByteArray).size = 1 := rfl
    have hz1 : (⟨#[109]⟩ : ByteArray).size = 1 := rfl
    have hz2 : (⟨#[71, 105]⟩ : ByteArray).size = 2 := rfl
    have hz3 : (⟨#[77, 105]⟩ : ByteArray).size = 2 := rfl
    have hz4 : (⟨#[75, 105]⟩ : ByteArray).size = 2 := rfl
    have b0 := b n (by omega) (by omega)
    have b1 := b (n / 1000) (by omega) (by omega)
    have b2 := b (n / 1000 / 1073741824) (by omega) (by omega)
    have b3 := b (n / 1000 / 1048576) (by omega) (by omega)
    have b4 := b (n / 1000 / 1024) (by omega) (by omega)
    have d1 := hd (n / 1000).toNat
    repeat' split
    all_goals try simp only [ByteArray.size_append]
    all_goals exact ⟨by omega, fun _ _ => by omega⟩
  · rw [if_neg c]
    exact ⟨by show (0 : Nat) ≤ _; omega, fun h0 h1 => absurd ⟨h0, h1⟩ c⟩
/-! ### what is drawn -/
theorem l1Int_tot (cs : List Int) (p s : Int) (l : List Int) (hc : Cur cs p) (h0 : 0 < l.length) (hl : l.length ≤ 1000) : Tot (fun _ => spec_l1Int.f cs p s l) (fun r => r.1 ∈ l ∧ Cur cs r.2.1) := by
  unfold spec_l1Int.f
  refine Tot.bind (l1Below_tot cs p s _ hc) (fun a ha => ?_)
  have hu := Upto.lt ha.1 (by omega : (0 : Int) < (l.length : Int))
  refine Tot.pos hu.1 (Tot.pos hu.2 (Tot.some ⟨?_, ha.2⟩))
  obtain ⟨i, hi⟩ : ∃ i : Nat, a.1 = i := ⟨a.1.toNat, by omega⟩
  have hil : i < l.length := by omega
  show rd l a.1 ∈ l
  rw [hi]
  have : rd l (i : Int) = l[i] := by unfold rd; rw [Int.toNat_natCast]; exact getD_at hil _
  rw [this]
  exact List.getElem_mem hil
theorem l1Once_tot' (cs : List Int) (p s n : Int) (hc : Cur cs p) : Tot (fun _ => spec_l1Once.f cs p s n) (fun r => Cur cs r.2.1) := by
  unfold spec_l1Once.f
  exact Tot.bind (l1Below_tot cs p s n hc) (fun a ha => Tot.some ha.2)
theorem drawAmt_tot (cs : List Int) (hl : cs.length ≤ 1048576) : Tot (fun k => spec_DrawAmountText.f k cs) (fun r => -9223372036854775808 ≤ r ∧ r ≤ 9223372036854775807) := by
  unfold spec_DrawAmountText.f
  refine Tot.bind (l1New_tot cs hl) (fun a ha => ?_)
  obtain ⟨e, hc⟩ := ha
  rw [e]
  refine Tot.bind (l1Once_tot' cs _ _ _ hc) (fun b hb => Tot.ite (fun _ => ?_) (fun _ => ?_))
  · refine Tot.bind (l1Int_tot cs _ _ _ hb (by simp) (by simp)) (fun c hc' => Tot.some ?_)
    have hm := hc'.1
    simp only [List.mem_cons, List.not_mem_nil, or_false] at hm
    show -9223372036854775808 ≤ c.1 ∧ c.1 ≤ 9223372036854775807
    omega
  · unfold spec_l3Amount.f
    refine Tot.bind (Φ := fun r => -9223372036854775808 ≤ r.1 ∧ r.1 ≤ 9223372036854775807) ?_ (fun c hc' => Tot.some hc')
    refine Tot.bind (l1Below_tot cs _ _ 100000 hb) (fun c hc' => Tot.bind (l1Below_tot cs _ _ 100 hc'.2) (fun d hd => Tot.bind (l1Int_tot cs _ _ _ hd.2 (by simp) (by simp)) (fun f hf => Tot.some ?_)))
    have h1 := hc'.1
    have h2 := hd.1
    unfold Upto at h1 h2
    have hm := hf.1
    simp only [List.mem_cons, List.not_mem_nil, or_false] at hm
    have hw : wrap64 (d.1 * 1000) = d.1 * 1000 := w64 (by omega) (by omega)
    rw [hw] at hm
    show -9223372036854775808 ≤ f.1 ∧ f.1 ≤ 9223372036854775807
    omega
theorem FnAmounts_pure (l0 : List Int) (hw : l0.length ≤ 9223372036854775807 ∧ ∀ x ∈ l0, 0 ≤ x ∧ x ≤ 255) : ∃ k, laws_FnAmounts.f k l0 = some true := by
  refine Ev.rounds ?_
  unfold laws_FnAmounts.f
  refine Ev.bind (f := fun k t => _) (a := decide ((l0.length : Int) > 1048576)) (ev_now (by unfold laws_big.f; first | rfl | (simp; done))) ?_
  by_cases cb : (l0.length : Int) > 1048576
  · exact ev_if_pos (decide_eq_true cb) (Ev.now _)
  refine ev_if_neg (by rw [decide_eq_true_iff]; exact cb) ?_
  obtain ⟨n, hn, hr⟩ := drawAmt_tot l0 (by omega)
  have hs := amtT_size n
  refine Ev.bind hn (Ev.bind (amtText_ev n hr) (Ev.bind (implParse_ev _ hs.1) ?_))
  by_cases c0 : n < 0
  · have e : amtT n = ⟨#[]⟩ := by unfold amtT; rw [if_neg (by omega)]
    rw [e, parsed_empty]
    exact ev_if_pos c0 (ev_if_pos (toList_nil.2 rfl) (Ev.now _))
  · refine ev_if_neg c0 ?_
    by_cases c1 : n > 1000000000000000
    · have e : amtT n = ⟨#[]⟩ := by unfold amtT; rw [if_neg (by omega)]
      rw [e, parsed_empty]
      exact ev_if_pos c1 (ev_if_pos (toList_nil.2 rfl) (Ev.now _))
    · refine ev_if_neg c1 ?_
      rw [parsed_amt n (by omega) (by omega)]
      have := hs.2 (by omega) (by omega)
      exact ev_if_pos rfl (ev_if_pos rfl (ev_some (decide_eq_true (by omega))))
end Go.Proofs.YtchhognpijobcaaDoor.G

/- GKOpen -/
/-
  An argument that can be read as data (the form's own reading) is of a kind 'Kd'; and what is known of it besides ('Wf').
-/
namespace Go.Proofs.YtchhognpijobcaaDoor.G
open Go.RowKit Go.Proofs.YtchhognpijobcaaDoorW.PrintWords Go.Proofs.YtchhognpijobcaaDoorW.PrintLast Go.Proofs.YtchhognpijobcaaDoorW.PrintMore
set_option linter.unusedVariables false
section
variable {H : Type} {enc : TypeId × Value → H} {P : Program} {w : World} {base : Nat} {spare : Nat → Bool} {held : Bool}
def KOpens {α : Type} (enc : TypeId × Value → H) (P : Program) (w : World) (base : Nat) (spare : Nat → Bool) (held : Bool) (n : Nat) (t : TypeId) (k : Kd α) (Wf : α → Prop) : Prop :=
  ∀ cs x, DataW.trod enc P w base spare held n t cs = some x → ∃ a, Wf a ∧ k.K w a cs
theorem kopens_u8 {n : Nat} {t : TypeId} (ht : P.underlying t = some (.int .u8)) : KOpens enc P w base spare held n t (Kd.int .u8) (fun i => 0 ≤ i ∧ i ≤ 255) := by
  intro cs x h
  obtain ⟨i, rfl, _, hw⟩ := DataW.trod_int ht h
  have m1 : IntKind.u8.min = 0 := by decide
  have m2 : IntKind.u8.max = 255 := by decide
  simp only [Lit.wf, Bool.and_eq_true, decide_eq_true_eq, m1, m2] at hw
  exact ⟨i, hw, rfl⟩
theorem list_pick {α : Type} {P : Nat → α → Prop} : ∀ (n : Nat), (∀ i, i < n → ∃ a, P i a) → ∃ xs : List α, xs.length = n ∧ ∀ i (h : i < xs.length), P i xs[i]
  | 0, _ => ⟨[], rfl, by simp⟩
  | n + 1, h => by
    obtain ⟨xs, hl, hx⟩ := list_pick (P := P) n (fun i hi => h i (by omega))
    obtain ⟨a, ha⟩ := h n (by omega)
    refine ⟨xs ++ [a], by simp [hl], fun i hi => ?_⟩
    by_cases hin : i < xs.length
    · rw [List.getElem_append_left hin]; exact hx i hin
    · have : i = n := by simp at hi; omega
      subst this
      rw [List.getElem_append_right (by omega)]
      simpa using ha
theorem kopens_slice {α : Type} {n : Nat} {t e : TypeId} {k : Kd α} {Wf : α → Prop} (ht : P.underlying t = some (.slice e)) (hsz : P.cellsOf e = k.sz) (hpos : 0 < k.sz) (hby : ∀ xs : List α, True → True)
    (ho : ∀ m, m < n → KOpens enc P w base spare held m e k Wf) : KOpens enc P w base spare held n t (Kd.slice e k) (fun xs => xs.length ≤ 9223372036854775807 ∧ ∀ x ∈ xs, Wf x) := by
  intro cs x h
  rcases DataW.trod_slice ht h with ⟨rfl, _⟩ | ⟨a, len, cap, elems, rest, m, hn, rfl, _, hb, hl, hm, hlen, hel, _, _⟩
  · exact ⟨[], ⟨by simp, by simp⟩, none, 0, rfl, by simp, rfl, by simp, fun h => absurd h (by simp)⟩
  · unfold maxLen at hm
    have get : ∀ i, i < len → ∃ p : α, Wf p ∧ ∃ cs', w.cells? base (a.add (i * k.sz)) k.sz = some cs' ∧ k.K w p cs' := by
      intro i hi
      have h1 := hel i hi
      rw [hsz, List.getElem?_eq_getElem (by omega), Option.bind_eq_some_iff] at h1
      obtain ⟨cs', h1, h2⟩ := h1
      obtain ⟨p, hp, hK⟩ := ho m (by omega) _ _ h2
      exact ⟨p, hp, cs', h1, hK⟩
    obtain ⟨xs, hxl, hxs⟩ := list_pick len get
    refine ⟨xs, ⟨by omega, fun p hp => ?_⟩, some a, cap, by rw [hxl], by omega, rfl, by omega, fun _ => ⟨a, rfl, fun j p hj => ?_⟩⟩
    · obtain ⟨i, hi, rfl⟩ := List.getElem_of_mem hp
      exact (hxs i hi).1
    · obtain ⟨hjl, rfl⟩ := List.getElem?_eq_some_iff.1 hj
      obtain ⟨_, cs', hc, hK⟩ := hxs j hjl
      obtain ⟨_, hl', hat'⟩ := World.cells?_some hc
      refine ⟨cs', k.K_len hK, hK, fun i u hu => ?_⟩
      have hi := (List.getElem?_eq_some_iff.1 hu).1
      have h3 := hat' i (by rw [k.K_len hK] at hi; exact hi)
      rw [hu] at h3
      have ha : (a.add (j * k.sz)).add i = a.add (j * k.sz + i) := by
        unfold Addr.add
        by_cases h1 : j * k.sz = 0 <;> by_cases h2 : i = 0 <;> simp [h1, h2, Nat.add_assoc]
      rw [ha] at h3
      exact h3
end
end Go.Proofs.YtchhognpijobcaaDoor.G

/- GKArgs -/
/-
  The arguments of the laws, opened: at this dump's type numbers.
-/
namespace Go.Proofs.YtchhognpijobcaaDoor.G
open Go.RowKit Go.Proofs.YtchhognpijobcaaDoorW.PrintWords Go.Proofs.YtchhognpijobcaaDoorW.PrintLast Go.Proofs.YtchhognpijobcaaDoorW.PrintMore
set_option linter.unusedVariables false
section
variable {H : Type} {enc : TypeId × Value → H} {w : World} {base : Nat} {spare : Nat → Bool} {held : Bool} {v : Value} {d : DataW H} {p : List MemPlace} {r : Reach} {b0 : Nat}
set_option maxRecDepth 20000 in
/-- A slice of such elements. -/
theorem kopen_of {α : Type} {t e : TypeId} {k : Kd α} {Wf : α → Prop} (ht : Tryd.prog.underlying t = some (.slice e)) (hsz : Tryd.prog.cellsOf e = k.sz) (hpos : 0 < k.sz) (ho : ∀ m, KOpens enc Tryd.prog w base spare held m e k Wf)
    (hv : Value.okWide Tryd.prog w r b0 t v) (h : DataW.Trod enc Tryd.prog w base spare held t v d p) :
    ∃ (xs : List α) (A : Option Addr) (c : Nat), v = .slice A xs.length c ∧ (xs.length ≤ 9223372036854775807 ∧ ∀ x ∈ xs, Wf x) ∧ xs.length ≤ c ∧ Kd.C k w A xs.length xs := by
  obtain ⟨A, n, c, rfl⟩ := Go.WideShapes.okWide_slice ht hv
  obtain ⟨fuel, h⟩ := h
  obtain ⟨xs, hw, A', c', he, hl, hC⟩ := kopens_slice ht hsz hpos (fun _ _ => trivial) (fun m _ => ho m) _ _ h
  have he' : [Value.slice A n c] = [Value.slice A' xs.length c'] := he
  simp only [List.cons.injEq, and_true] at he'
  exact ⟨xs, A', c', he', hw, hl, hC⟩
set_option maxRecDepth 20000 in
theorem kopen_bytes (hv : Value.okWide Tryd.prog w r b0 37 v) (h : DataW.Trod enc Tryd.prog w base spare held 37 v d p) :
    ∃ (xs : List Int) (A : Option Addr) (c : Nat), v = .slice A xs.length c ∧ (xs.length ≤ 9223372036854775807 ∧ ∀ x ∈ xs, 0 ≤ x ∧ x ≤ 255) ∧ xs.length ≤ c ∧ Kd.C (Kd.int .u8) w A xs.length xs :=
  kopen_of Tryd.underlying37 (by kernel_rfl) (by decide) (fun m => kopens_u8 Tryd.underlying5) hv h
end
end Go.Proofs.YtchhognpijobcaaDoor.G

/- RowFnAmountsCard -/
/- The law 'FnAmounts' holds for every input: it returns true, and each argument reads behind the call as it read before. No condition. -/
namespace Go.Proofs.YtchhognpijobcaaDoor.fnAmounts
open Go.ChangeShapes Go.WideShapes Go.ChangeAt Go.RowKit
set_option linter.unusedVariables false
theorem own : ownKnob Tryd.prog.godebug = none := by kernel_rfl
theorem laidOut : laidOutB Tryd.prog = true := by kernel_rfl
set_option maxRecDepth 100000 in
theorem lifted (os : Os) (started : os.Started) (H : Type) (enc : TypeId × Value → H) :
    ReturnsInHanded {} Tryd.checked os 5 .any (fun w args => (Rows.fnAmountsSpec.pre enc Tryd.prog Tryd.f5 Rows.fnAmountsRow.domain false w args ∧ laidMetH Tryd.prog Rows.fnAmountsRow.laid w) ∧ sizedMet enc Tryd.prog Tryd.f5 (OpenSpec.ofChange Rows.fnAmountsSpec) false w args) (Rows.fnAmountsSpec.post enc Tryd.prog Tryd.f5 false true false false) := by
  refine returnsInHanded_of_change_and (C := Tryd.checked) (X := fun w _ => laidMetH Tryd.prog Rows.fnAmountsRow.laid w) (fun _ _ _ hh h => h.of_heap hh) own started (by kernel_rfl) Tryd.func5
    (ChangeSpec.witness_shaped (enc := enc) (C := Tryd.checked) (os := os) (X := fun w _ => laidMetH Tryd.prog Rows.fnAmountsRow.laid w) false (World.laidAll Tryd.prog os Rows.fnAmountsRow.laid) #[.slice none 0 0] 8 (World.laidAll_os _ _ _)
      (World.shaped_of_ZipB (by kernel_rfl) (by kernel_rfl)) (by kernel_rfl) (by kernel_rfl) (by kernel_rfl)
      (by rw [MakeChecks.laidMetH_plain _ _ _ (by kernel_rfl)]; exact laidMet_laidAll _ (by kernel_rfl) (by kernel_rfl))) ?_
  intro W base args ds gs before hval0 hW hcnd hshape hL _
  have hval : ∀ (j : Nat) t v, Tryd.f5.params[j]? = some t → args[j]? = some v → Value.okWide Tryd.prog W .any base t v := hval0
  have hW' := hW
  obtain ⟨p, q, hA0, hV, rfl, hfz, hnd⟩ := hW
  have hA : DataW.TrodAll enc Tryd.prog W 0 (fun _ => true) true Tryd.f5.params.toList args.toList ds p := hA0
  rw [Tryd.params5] at hA hval
  obtain ⟨v0, vs0, d0, ds0, p0, q0, hargs0, rfl, rfl, h0, r0x⟩ := trodAll_cons hA
  obtain ⟨rfl, rfl, rfl⟩ := trodAll_nil r0x
  obtain rfl : args = #[v0] := by cases args; simp_all
  obtain ⟨rfl, rfl⟩ := trodVars_none hV
  have hlt := hW'.lt
  have hk0 := h0
  obtain ⟨x0, A0, c0, rfl, w0, l0, q0⟩ := G.kopen_bytes (hval 0 37 v0 rfl rfl) h0
  clear hA0 hval0
  obtain ⟨k, hk⟩ := G.FnAmounts_pure x0 w0
  refine (G.laws_FnAmounts.calls k A0 c0 x0 true W q0 l0 hk).mono fun e W' ⟨he, bel⟩ => ?_
  subst he
  exact ⟨_, rfl, _, _, _, [], _, [], hW', trodAll_mk1 (shut_bool Tryd.underlying4 _), (trodAll_cons_mk (Below.trod laidOut (by kernel_rfl) (of_decide_eq_true (by kernel_rfl)) hk0 bel (fun x hx => hlt x (by simp [hx]))) trodAll_mk0), rfl, bel.frame _, fun h => by cases h⟩
theorem over : Rows.fnAmountsRow.holds Tryd.pinned (OpenSpec.ofChange Rows.fnAmountsSpec) :=
  OpenClaim.holds_of_wide 5 Tryd.f5 rfl rfl rfl rfl rfl rfl rfl ⟨rfl, rfl, rfl, rfl, rfl⟩ rfl rfl rfl rfl rfl (by kernel_rfl) Tryd.func5 (by kernel_rfl)
    (of_decide_eq_true (by kernel_rfl)) (by unfold Func.isWrapper; first | (rw [if_pos (by decide +kernel)]; kernel_rfl) | (rw [if_neg (by decide +kernel)]; exact ⟨rfl, rfl⟩))
    (fun os started H enc _ => lifted os started H enc)
theorem proved : Rows.FnAmountsSaid := over
#print axioms proved
end Go.Proofs.YtchhognpijobcaaDoor.fnAmounts
namespace Go.Proofs.YtchhognpijobcaaDoor
theorem fnAmountsCard_holds : Rows.FnAmountsCardSaid :=
  Claim7.holds_tied_plain_at .later [] [.data, .pinned] true (true, "54c651b9c64be20fa246e25f28148a4c2f311f3159a23607e0a709c027eda79d") false fnAmounts.proved (fun _ h => by cases h) (by kernel_rfl) (fun _ h => by cases h) fnAmounts_row_tie rfl ⟨rfl, rfl⟩ (by kernel_rfl) rfl
    (fun f fn hf hfn => by
      obtain rfl : f = 5 := Option.some.inj ((show Tryd.prog.funcNamed "loop.example/g00119/laws.FnAmounts" = some 5 by kernel_rfl).symm.trans hf) |>.symm
      obtain rfl : fn = Tryd.f5 := (Option.some.inj (Tryd.func5.symm.trans hfn)).symm
      exact ⟨by kernel_rfl, fun j t ht => by
        rw [Tryd.params5] at ht
        have hm : t ∈ [37] := by simpa using Array.mem_of_getElem? ht
        have hall : ([37].all fun u => !Tryd.prog.wantsStandIn u) = true := by kernel_rfl
        exact (show Tryd.prog.wantsStandIn t = false by simpa using List.all_eq_true.1 hall t hm)⟩)
    (by kernel_rfl)
end Go.Proofs.YtchhognpijobcaaDoor
