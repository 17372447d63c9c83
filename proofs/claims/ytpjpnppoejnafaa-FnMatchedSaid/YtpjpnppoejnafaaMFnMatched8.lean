import Derived.Test.YtpjpnppoejnafaaMFnMatched1
import Derived.Test.YtpjpnppoejnafaaMFnMatched3
import Derived.Test.YtpjpnppoejnafaaMFnMatched4
import Derived.Test.YtpjpnppoejnafaaMFnMatched7
import Derived.Test.YtpjpnppoejnafaaMFnMatched6
/- G20 -/
-- Laid by wip/g/gprint.py out of the translation, by the kit's print program. Lean checks it.
namespace Go.Proofs.Ytpjpnppoejnafaa.G
open Go.RowKit Go.Proofs.YtpjpnppoejnafaaW.PrintWords Go.Proofs.YtpjpnppoejnafaaW.PrintLast Go.Proofs.YtpjpnppoejnafaaW.PrintMore
attribute [local go_sem] max2_int min2_int max_two min_two max_three min_three max_four min_four   -- for this text's walks alone
set_option linter.unusedVariables false
set_option linter.unusedSimpArgs false

/-! ### spec_LabelSet: function 20 -/
mutual
def spec_LabelSet.j0 : Nat → List (S56) → ByteArray → ByteArray → Bool → Option ((List (S56)) × Bool)
  | 0, _, _, _, _ => none
  | k + 1, x0, x1, x2, x40 => if x40 = true then ((spec_l1Labels.f x0).bind fun t226 => (some (t226, false))) else (spec_LabelSet.l0 k x0 x1 x2 (([] : List (S56))) false 0)
def spec_LabelSet.l0 : Nat → List (S56) → ByteArray → ByteArray → List (S56) → Bool → Int → Option ((List (S56)) × Bool)
  | 0, _, _, _, _, _, _ => none
  | k + 1, x0, x1, x2, x10, x11, x12 => if x12 < (x0.length : Int) then (if x11 = true then (spec_LabelSet.j2 k x0 x1 x2 x10 x11 x12 false) else (if 0 ≤ x12 then (spec_LabelSet.j2 k x0 x1 x2 x10 x11 x12 (!(Op.bytesLess (((rd_T56 x0 x12).f0).toList) x1.toList))) else (none))) else (if x11 = true then (some (x10, true)) else (if x10.length < 4398046511104 then (some ((x10 ++ [(⟨x1, x2⟩ : S56)]), true)) else (none)))
def spec_LabelSet.j2 : Nat → List (S56) → ByteArray → ByteArray → List (S56) → Bool → Int → Bool → Option ((List (S56)) × Bool)
  | 0, _, _, _, _, _, _, _ => none
  | k + 1, x0, x1, x2, x10, x11, x12, x60 => if x60 = true then (if x10.length < 4398046511104 then ((some (x10 ++ [(⟨x1, x2⟩ : S56)] : List (S56))).bind fun y236 => (if 0 ≤ x12 then (if x12 < (x0.length : Int) then (if ((rd_T56 x0 x12).f0).toList = x1.toList then (spec_LabelSet.l0 k x0 x1 x2 y236 true (wrap64 (x12 + 1))) else (if y236.length < 4398046511104 then (spec_LabelSet.l0 k x0 x1 x2 (y236 ++ [(⟨(rd_T56 x0 x12).f0, (rd_T56 x0 x12).f1⟩ : S56)]) true (wrap64 (x12 + 1))) else (none))) else (none)) else (none))) else (none)) else (if 0 ≤ x12 then (if x12 < (x0.length : Int) then (if ((rd_T56 x0 x12).f0).toList = x1.toList then (spec_LabelSet.l0 k x0 x1 x2 x10 x11 (wrap64 (x12 + 1))) else (if x10.length < 4398046511104 then (spec_LabelSet.l0 k x0 x1 x2 (x10 ++ [(⟨(rd_T56 x0 x12).f0, (rd_T56 x0 x12).f1⟩ : S56)]) x11 (wrap64 (x12 + 1))) else (none))) else (none)) else (none))
end
def spec_LabelSet.f (k : Nat) (l0 : List (S56)) (a1 : ByteArray) (a2 : ByteArray) : Option ((List (S56)) × Bool) := (spec_LabelGet.f k l0 a1).bind fun bt221 => ((spec_LabelsOk.f k l0).bind fun t223 => (if t223 = true then ((spec_NameOk.f k a1).bind fun t224 => (if t224 = true then ((spec_NameOk.f k a2).bind fun t225 => (if t225 = true then (if bt221.2 = true then (spec_LabelSet.j0 k l0 a1 a2 false) else (spec_LabelSet.j0 k l0 a1 a2 ((l0.length : Int) == 8))) else (spec_LabelSet.j0 k l0 a1 a2 true))) else (spec_LabelSet.j0 k l0 a1 a2 true))) else (spec_LabelSet.j0 k l0 a1 a2 true)))
set_option maxHeartbeats 8000000 in
set_option maxRecDepth 100000 in
theorem spec_LabelSet.calls (k : Nat) (A0 : Option Addr) (c0 : Nat) (l0 : List (S56)) (a1 : ByteArray) (a2 : ByteArray) (r1 : List (S56)) (r2 : Bool) (w : World) (hr0 : Kd.C k56 w A0 l0.length l0) (hc0 : l0.length ≤ c0) (h : spec_LabelSet.f k l0 a1 a2 = some (r1, r2)) :
    Calls Try.prog 20 #[.slice A0 l0.length c0, .string a1, .string a2] w fun e w' => ∃ v0_ : Value, e = .returned (.tuple #[v0_, .bool r2]) ∧ Kd.R k56 56 w' w.heap.size (fun _ => True) v0_ r1 ∧ Below w.heap.size w w' := by
  have hu56 := Try.underlying56
  have HR0 := Aside0.mk hr0
  have HC0 := Aside0.mk hc0
  clear hr0 hc0
  have HB := Aside0.mk (Below.refl w.heap.size w)
  have H : ((spec_LabelGet.f k l0 a1).bind fun bt221 => ((spec_LabelsOk.f k l0).bind fun t223 => (if t223 = true then ((spec_NameOk.f k a1).bind fun t224 => (if t224 = true then ((spec_NameOk.f k a2).bind fun t225 => (if t225 = true then (if bt221.2 = true then (spec_LabelSet.j0 k l0 a1 a2 false) else (spec_LabelSet.j0 k l0 a1 a2 ((l0.length : Int) == 8))) else (spec_LabelSet.j0 k l0 a1 a2 true))) else (spec_LabelSet.j0 k l0 a1 a2 true))) else (spec_LabelSet.j0 k l0 a1 a2 true)))) = some (r1, r2) := h
  clear h
  replace H := Option.bind_eq_some_iff.mp H
  obtain ⟨⟨t221, t222⟩, A40, H⟩ := H
  replace H : ((spec_LabelsOk.f k l0).bind fun t223 => (if t223 = true then ((spec_NameOk.f k a1).bind fun t224 => (if t224 = true then ((spec_NameOk.f k a2).bind fun t225 => (if t225 = true then (if t222 = true then (spec_LabelSet.j0 k l0 a1 a2 false) else (spec_LabelSet.j0 k l0 a1 a2 ((l0.length : Int) == 8))) else (spec_LabelSet.j0 k l0 a1 a2 true))) else (spec_LabelSet.j0 k l0 a1 a2 true))) else (spec_LabelSet.j0 k l0 a1 a2 true))) = some (r1, r2) := H
  have A4 := Aside0.mk A40
  clear A40
  have HC5 := Aside0.mk H
  clear H
  go_enter Try.func20, Try.ntmps20
  go_upto_region 2 with (first | ((with_reducible refine gate_callee (f := 45) rfl ?_); refine goesL_ (some 16) rfl rfl Try.func45 (by kernel_rfl) rfl #[.slice A0 l0.length c0, .string a1] rfl (by (try simp only [List.map_toArray, List.map_cons, List.map_nil]); first | done | rfl | (simp only [List.length_drop, List.length_take]; rfl)) ?_; (with_reducible refine (spec_LabelGet.calls k _ _ l0 a1 t221 t222 _ ?side1 ?side2 A4.out).mono ?_); (case side1 => repeat (first | exact HR0.out | (with_reducible refine Kd.C_alloc ?_ _) | (with_reducible refine Kd.C_drewN ?_ _) | (with_reducible refine Kd.C_drew ?_))); (case side2 => exact HC0.out); rintro e w' ⟨rfl, ⟨nd, rfl⟩⟩; refine ⟨_, rfl, ?_⟩))
  (try simp only [Act.put, List.setIfInBounds_toArray, List.set_cons_zero, List.set_cons_succ])
  go_cut [40] (fun v40 wc => ∃ (kq : Nat) (x40_4 : Bool), v40 = .bool x40_4 ∧ Aside0 (spec_LabelSet.j0 kq l0 a1 a2 x40_4 = some (r1, r2)) ∧ Aside0 (kq ≤ k) ∧ Aside0 (Below w.heap.size w wc))
  case first =>
    have H := HC5.out
    clear HC5
    replace H := Option.bind_eq_some_iff.mp H
    obtain ⟨t223, A60, H⟩ := H
    replace H : (if t223 = true then ((spec_NameOk.f k a1).bind fun t224 => (if t224 = true then ((spec_NameOk.f k a2).bind fun t225 => (if t225 = true then (if t222 = true then (spec_LabelSet.j0 k l0 a1 a2 false) else (spec_LabelSet.j0 k l0 a1 a2 ((l0.length : Int) == 8))) else (spec_LabelSet.j0 k l0 a1 a2 true))) else (spec_LabelSet.j0 k l0 a1 a2 true))) else (spec_LabelSet.j0 k l0 a1 a2 true)) = some (r1, r2) := H
    have A6 := Aside0.mk A60
    clear A60
    by_cases c7 : t223 = true
    · subst c7
      have H1 : ((spec_NameOk.f k a1).bind fun t224 => (if t224 = true then ((spec_NameOk.f k a2).bind fun t225 => (if t225 = true then (if t222 = true then (spec_LabelSet.j0 k l0 a1 a2 false) else (spec_LabelSet.j0 k l0 a1 a2 ((l0.length : Int) == 8))) else (spec_LabelSet.j0 k l0 a1 a2 true))) else (spec_LabelSet.j0 k l0 a1 a2 true))) = some (r1, r2) := by rw [if_pos rfl] at H; exact H
      clear H
      have H := H1
      clear H1
      replace H := Option.bind_eq_some_iff.mp H
      obtain ⟨t224, A80, H⟩ := H
      replace H : (if t224 = true then ((spec_NameOk.f k a2).bind fun t225 => (if t225 = true then (if t222 = true then (spec_LabelSet.j0 k l0 a1 a2 false) else (spec_LabelSet.j0 k l0 a1 a2 ((l0.length : Int) == 8))) else (spec_LabelSet.j0 k l0 a1 a2 true))) else (spec_LabelSet.j0 k l0 a1 a2 true)) = some (r1, r2) := H
      have A8 := Aside0.mk A80
      clear A80
      by_cases c9 : t224 = true
      · subst c9
        have H1 : ((spec_NameOk.f k a2).bind fun t225 => (if t225 = true then (if t222 = true then (spec_LabelSet.j0 k l0 a1 a2 false) else (spec_LabelSet.j0 k l0 a1 a2 ((l0.length : Int) == 8))) else (spec_LabelSet.j0 k l0 a1 a2 true))) = some (r1, r2) := by rw [if_pos rfl] at H; exact H
        clear H
        have H := H1
        clear H1
        replace H := Option.bind_eq_some_iff.mp H
        obtain ⟨t225, A100, H⟩ := H
        replace H : (if t225 = true then (if t222 = true then (spec_LabelSet.j0 k l0 a1 a2 false) else (spec_LabelSet.j0 k l0 a1 a2 ((l0.length : Int) == 8))) else (spec_LabelSet.j0 k l0 a1 a2 true)) = some (r1, r2) := H
        have A10 := Aside0.mk A100
        clear A100
        by_cases c11 : t225 = true
        · subst c11
          have H1 : (if t222 = true then (spec_LabelSet.j0 k l0 a1 a2 false) else (spec_LabelSet.j0 k l0 a1 a2 ((l0.length : Int) == 8))) = some (r1, r2) := by rw [if_pos rfl] at H; exact H
          clear H
          have H := H1
          clear H1
          by_cases c12 : t222 = true
          · subst c12
            have H1 : (spec_LabelSet.j0 k l0 a1 a2 false) = some (r1, r2) := by rw [if_pos rfl] at H; exact H
            clear H
            have H := H1
            clear H1
            have H' := Aside0.mk H
            clear H
            go_wp2_with (first | ((with_reducible refine gate_callee (f := 35) rfl ?_); refine goesL_ (some 20) rfl rfl Try.func35 (by kernel_rfl) rfl #[.slice A0 l0.length c0] rfl (by (try simp only [List.map_toArray, List.map_cons, List.map_nil]); first | done | rfl | (simp only [List.length_drop, List.length_take]; rfl)) ?_; (with_reducible refine (spec_LabelsOk.calls k _ _ l0 true _ ?side1 ?side2 A6.out).mono ?_); (case side1 => repeat (first | exact (Kd.C_below HR0.out HB.out) | (with_reducible refine Kd.C_alloc ?_ _) | (with_reducible refine Kd.C_drewN ?_ _) | (with_reducible refine Kd.C_drew ?_))); (case side2 => exact HC0.out); rintro e w13 ⟨rfl, hb⟩; refine ⟨_, rfl, ?_⟩; have n0_ := Aside0.mk (below_step (by repeat (first | (with_reducible first | exact HB.out | apply below_alloc | apply pw_below_drewN | apply below_drew1) | exact HB.out)) hb); clear HB; have HB := n0_; clear n0_; (try clear hb); (try clear hb2); (try clear hk); (try clear hi)) | (go_at_call 46; (with_reducible refine (spec_NameOk.calls k a1 true _ A8.out).mono ?_); rintro e w' ⟨rfl, ⟨nd, rfl⟩⟩) | (go_at_call 46; (with_reducible refine (spec_NameOk.calls k a2 true _ A10.out).mono ?_); rintro e w' ⟨rfl, ⟨nd, rfl⟩⟩))
            go_meet
            case rel => exact ⟨_, (false), (by first | rfl | (simp; done) | (simp [*]; done)), H', ⟨by first | omega | exact Nat.le_refl _⟩, ⟨by repeat (first | (with_reducible first | exact HB.out | apply below_alloc | apply pw_below_drewN | apply below_drew1) | exact HB.out)⟩⟩
          · replace c12 := Bool.eq_false_iff.mpr c12
            subst c12
            have H1 : (spec_LabelSet.j0 k l0 a1 a2 ((l0.length : Int) == 8)) = some (r1, r2) := by rw [if_neg (show ¬ (false = true) by decide)] at H; exact H
            clear H
            have H := H1
            clear H1
            have H' := Aside0.mk H
            clear H
            go_wp2_with (first | ((with_reducible refine gate_callee (f := 35) rfl ?_); refine goesL_ (some 20) rfl rfl Try.func35 (by kernel_rfl) rfl #[.slice A0 l0.length c0] rfl (by (try simp only [List.map_toArray, List.map_cons, List.map_nil]); first | done | rfl | (simp only [List.length_drop, List.length_take]; rfl)) ?_; (with_reducible refine (spec_LabelsOk.calls k _ _ l0 true _ ?side1 ?side2 A6.out).mono ?_); (case side1 => repeat (first | exact (Kd.C_below HR0.out HB.out) | (with_reducible refine Kd.C_alloc ?_ _) | (with_reducible refine Kd.C_drewN ?_ _) | (with_reducible refine Kd.C_drew ?_))); (case side2 => exact HC0.out); rintro e w14 ⟨rfl, hb⟩; refine ⟨_, rfl, ?_⟩; have n0_ := Aside0.mk (below_step (by repeat (first | (with_reducible first | exact HB.out | apply below_alloc | apply pw_below_drewN | apply below_drew1) | exact HB.out)) hb); clear HB; have HB := n0_; clear n0_; (try clear hb); (try clear hb2); (try clear hk); (try clear hi)) | (go_at_call 46; (with_reducible refine (spec_NameOk.calls k a1 true _ A8.out).mono ?_); rintro e w' ⟨rfl, ⟨nd, rfl⟩⟩) | (go_at_call 46; (with_reducible refine (spec_NameOk.calls k a2 true _ A10.out).mono ?_); rintro e w' ⟨rfl, ⟨nd, rfl⟩⟩))
            go_meet
            case rel => exact ⟨_, (((l0.length : Int) == 8)), (by first | rfl | (simp; done) | (simp [*]; done)), H', ⟨by first | omega | exact Nat.le_refl _⟩, ⟨by repeat (first | (with_reducible first | exact HB.out | apply below_alloc | apply pw_below_drewN | apply below_drew1) | exact HB.out)⟩⟩
        · replace c11 := Bool.eq_false_iff.mpr c11
          subst c11
          have H1 : (spec_LabelSet.j0 k l0 a1 a2 true) = some (r1, r2) := by rw [if_neg (show ¬ (false = true) by decide)] at H; exact H
          clear H
          have H := H1
          clear H1
          have H' := Aside0.mk H
          clear H
          go_wp2_with (first | ((with_reducible refine gate_callee (f := 35) rfl ?_); refine goesL_ (some 20) rfl rfl Try.func35 (by kernel_rfl) rfl #[.slice A0 l0.length c0] rfl (by (try simp only [List.map_toArray, List.map_cons, List.map_nil]); first | done | rfl | (simp only [List.length_drop, List.length_take]; rfl)) ?_; (with_reducible refine (spec_LabelsOk.calls k _ _ l0 true _ ?side1 ?side2 A6.out).mono ?_); (case side1 => repeat (first | exact (Kd.C_below HR0.out HB.out) | (with_reducible refine Kd.C_alloc ?_ _) | (with_reducible refine Kd.C_drewN ?_ _) | (with_reducible refine Kd.C_drew ?_))); (case side2 => exact HC0.out); rintro e w15 ⟨rfl, hb⟩; refine ⟨_, rfl, ?_⟩; have n0_ := Aside0.mk (below_step (by repeat (first | (with_reducible first | exact HB.out | apply below_alloc | apply pw_below_drewN | apply below_drew1) | exact HB.out)) hb); clear HB; have HB := n0_; clear n0_; (try clear hb); (try clear hb2); (try clear hk); (try clear hi)) | (go_at_call 46; (with_reducible refine (spec_NameOk.calls k a1 true _ A8.out).mono ?_); rintro e w' ⟨rfl, ⟨nd, rfl⟩⟩) | (go_at_call 46; (with_reducible refine (spec_NameOk.calls k a2 false _ A10.out).mono ?_); rintro e w' ⟨rfl, ⟨nd, rfl⟩⟩))
          go_meet
          case rel => exact ⟨_, (true), (by first | rfl | (simp; done) | (simp [*]; done)), H', ⟨by first | omega | exact Nat.le_refl _⟩, ⟨by repeat (first | (with_reducible first | exact HB.out | apply below_alloc | apply pw_below_drewN | apply below_drew1) | exact HB.out)⟩⟩
      · replace c9 := Bool.eq_false_iff.mpr c9
        subst c9
        have H1 : (spec_LabelSet.j0 k l0 a1 a2 true) = some (r1, r2) := by rw [if_neg (show ¬ (false = true) by decide)] at H; exact H
        clear H
        have H := H1
        clear H1
        have H' := Aside0.mk H
        clear H
        go_wp2_with (first | ((with_reducible refine gate_callee (f := 35) rfl ?_); refine goesL_ (some 20) rfl rfl Try.func35 (by kernel_rfl) rfl #[.slice A0 l0.length c0] rfl (by (try simp only [List.map_toArray, List.map_cons, List.map_nil]); first | done | rfl | (simp only [List.length_drop, List.length_take]; rfl)) ?_; (with_reducible refine (spec_LabelsOk.calls k _ _ l0 true _ ?side1 ?side2 A6.out).mono ?_); (case side1 => repeat (first | exact (Kd.C_below HR0.out HB.out) | (with_reducible refine Kd.C_alloc ?_ _) | (with_reducible refine Kd.C_drewN ?_ _) | (with_reducible refine Kd.C_drew ?_))); (case side2 => exact HC0.out); rintro e w16 ⟨rfl, hb⟩; refine ⟨_, rfl, ?_⟩; have n0_ := Aside0.mk (below_step (by repeat (first | (with_reducible first | exact HB.out | apply below_alloc | apply pw_below_drewN | apply below_drew1) | exact HB.out)) hb); clear HB; have HB := n0_; clear n0_; (try clear hb); (try clear hb2); (try clear hk); (try clear hi)) | (go_at_call 46; (with_reducible refine (spec_NameOk.calls k a1 false _ A8.out).mono ?_); rintro e w' ⟨rfl, ⟨nd, rfl⟩⟩))
        go_meet
        case rel => exact ⟨_, (true), (by first | rfl | (simp; done) | (simp [*]; done)), H', ⟨by first | omega | exact Nat.le_refl _⟩, ⟨by repeat (first | (with_reducible first | exact HB.out | apply below_alloc | apply pw_below_drewN | apply below_drew1) | exact HB.out)⟩⟩
    · replace c7 := Bool.eq_false_iff.mpr c7
      subst c7
      have H1 : (spec_LabelSet.j0 k l0 a1 a2 true) = some (r1, r2) := by rw [if_neg (show ¬ (false = true) by decide)] at H; exact H
      clear H
      have H := H1
      clear H1
      have H' := Aside0.mk H
      clear H
      go_wp2_with (first | ((with_reducible refine gate_callee (f := 35) rfl ?_); refine goesL_ (some 20) rfl rfl Try.func35 (by kernel_rfl) rfl #[.slice A0 l0.length c0] rfl (by (try simp only [List.map_toArray, List.map_cons, List.map_nil]); first | done | rfl | (simp only [List.length_drop, List.length_take]; rfl)) ?_; (with_reducible refine (spec_LabelsOk.calls k _ _ l0 false _ ?side1 ?side2 A6.out).mono ?_); (case side1 => repeat (first | exact (Kd.C_below HR0.out HB.out) | (with_reducible refine Kd.C_alloc ?_ _) | (with_reducible refine Kd.C_drewN ?_ _) | (with_reducible refine Kd.C_drew ?_))); (case side2 => exact HC0.out); rintro e w17 ⟨rfl, hb⟩; refine ⟨_, rfl, ?_⟩; have n0_ := Aside0.mk (below_step (by repeat (first | (with_reducible first | exact HB.out | apply below_alloc | apply pw_below_drewN | apply below_drew1) | exact HB.out)) hb); clear HB; have HB := n0_; clear n0_; (try clear hb); (try clear hb2); (try clear hk); (try clear hi)))
      go_meet
      case rel => exact ⟨_, (true), (by first | rfl | (simp; done) | (simp [*]; done)), H', ⟨by first | omega | exact Nat.le_refl _⟩, ⟨by repeat (first | (with_reducible first | exact HB.out | apply below_alloc | apply pw_below_drewN | apply below_drew1) | exact HB.out)⟩⟩
  case rest =>
    clear HC5
    try clear c1
    try clear c2
    try clear p2
    try clear c3
    try clear c4
    try clear c7
    try clear c9
    try clear c11
    try clear c12
    obtain ⟨kq, x40_4, rfl, HA, HJ4, HB⟩ := hcut
    cases kq with
    | zero => exact absurd HA.out (by simp [spec_LabelSet.j0])
    | succ kj4 =>
      have H := HA.out
      clear HA
      simp only [spec_LabelSet.j0] at H
      by_cases c18 : x40_4 = true
      · subst c18
        have H1 : ((spec_l1Labels.f l0).bind fun t226 => (some (t226, false))) = some (r1, r2) := by rw [if_pos rfl] at H; exact H
        clear H
        have H := H1
        clear H1
        replace H := Option.bind_eq_some_iff.mp H
        obtain ⟨t226, A190, H⟩ := H
        replace H : (some (t226, false)) = some (r1, r2) := H
        have A19 := Aside0.mk A190
        clear A190
        simp only [Option.some.injEq, Prod.mk.injEq] at H
        obtain ⟨rfl, rfl⟩ := H
        go_wp2_with (first | ((with_reducible refine gate_callee (f := 47) rfl ?_); refine goesL_ (some 42) rfl rfl Try.func47 (by kernel_rfl) rfl #[.slice A0 l0.length c0] rfl (by (try simp only [List.map_toArray, List.map_cons, List.map_nil]); first | done | rfl | (simp only [List.length_drop, List.length_take]; rfl)) ?_; (with_reducible refine (spec_l1Labels.calls _ _ l0 t226 _ ?side1 ?side2 A19.out).mono ?_); (case side1 => repeat (first | exact (Kd.C_below HR0.out HB.out) | (with_reducible refine Kd.C_alloc ?_ _) | (with_reducible refine Kd.C_drewN ?_ _) | (with_reducible refine Kd.C_drew ?_))); (case side2 => exact HC0.out); rintro e w20 ⟨v227, rfl, ho0, hb⟩; refine ⟨_, rfl, ?_⟩; have n0_ := Aside0.mk (Kd.R_lower ho0 (below_size (by repeat (first | (with_reducible first | exact HB.out | apply below_alloc | apply pw_below_drewN | apply below_drew1) | exact HB.out)))); have n1_ := Aside0.mk (below_step (by repeat (first | (with_reducible first | exact HB.out | apply below_alloc | apply pw_below_drewN | apply below_drew1) | exact HB.out)) hb); clear HB; have HO228 := n0_; have HB := n1_; clear n0_ n1_; (try clear hb); (try clear hb2); (try clear hk); (try clear hi); (try clear ho0)))
        go_ret2
        exact ⟨_, by first | rfl | (simp [errW_none, errW_some] <;> rfl) | (simp [*, errW_none, errW_some] <;> rfl), by (with_reducible repeat (first | apply Kd.R_alloc | apply Kd.R_drewN | apply Kd.R_drew)); exact HO228.out, by repeat (first | (with_reducible first | exact HB.out | apply below_alloc | apply pw_below_drewN | apply below_drew1) | exact HB.out)⟩
      · replace c18 := Bool.eq_false_iff.mpr c18
        subst c18
        have H1 : (spec_LabelSet.l0 kj4 l0 a1 a2 (([] : List (S56))) false 0) = some (r1, r2) := by rw [if_neg (show ¬ (false = true) by decide)] at H; exact H
        clear H
        have H := H1
        clear H1
        obtain ⟨y229, hy229⟩ : ∃ y_ : List (S56), y_ = (([] : List (S56))) := ⟨_, rfl⟩
        replace H : (spec_LabelSet.l0 kj4 l0 a1 a2 y229 false 0) = some (r1, r2) := by first | (rw [hy229]; with_reducible exact H) | (have H2_ := (Option.bind_some _ _).symm.trans H; rw [hy229]; with_reducible exact H2_) | (have H2_ := (Option.bind_some _ _).symm.trans H; with_reducible exact H2_) | with_reducible exact H | (rw [hy229]; exact H) | exact H
        have Ny229 := Aside0.mk hy229
        clear hy229
        have H' := Aside0.mk H
        clear H
        go_wp2_with (first | ((with_reducible refine gate_dst (N := 43) rfl ?_); (try (refine gate_guard (by rfl) ?_; dsimp only)); refine Kd.R_lit k56 _ 56 ?hg (N := 43) ?hd (xs := ([] : List (S56))) (inner := []) (ok := fun _ => True) (okp := fun _ => True) ?hr ?hp (fun _ hk => hk) trivial (Below.refl _ _) (Nat.le_refl _) (by simp) ?_; (case hd => rfl); (case hg => rfl); (case hr => first | (go_simp; done) | (go_simp; rfl)); (case hp => exact (Reps.none _ _)); intro v230 w21 ho22 hb hg_ hnew_; clear hg_ hnew_; (first | rw [← Ny229.out] at ho22 | (simp only [Int.reduceToNat] at ho22; rw [← Ny229.out] at ho22)); have n0_ := Aside0.mk (Kd.R_lower ho22 (below_size (by repeat (first | (with_reducible first | exact HB.out | apply below_alloc | apply pw_below_drewN | apply below_drew1) | exact HB.out)))); have n1_ := Aside0.mk (below_step (by repeat (first | (with_reducible first | exact HB.out | apply below_alloc | apply pw_below_drewN | apply below_drew1) | exact HB.out)) hb); clear HB; have HO231 := n0_; have HB := n1_; clear n0_ n1_; clear hb ho22))
        go_loopg [10, 11, 12] kj4 (fun kq v10 v11 v12 w' => ∃ (x10_2 : List (S56)) (x11_2 : Bool) (x12_2 : Int), v11 = .bool x11_2 ∧ v12 = .int .i64 x12_2 ∧ Aside0 (spec_LabelSet.l0 kq l0 a1 a2 x10_2 x11_2 x12_2 = some (r1, r2)) ∧ Aside0 (kq ≤ kj4) ∧ Aside0 (Kd.R k56 56 w' w.heap.size (fun _ => True) v10 x10_2) ∧ Aside0 (Below w.heap.size w w'))
        case atStart => exact ⟨(y229), (false), (0), (by first | rfl | (simp; done) | (simp [*]; done)), (by first | rfl | (simp; done) | (simp [*]; done)), H', ⟨Nat.le_refl _⟩, ⟨by (with_reducible repeat (first | apply Kd.R_alloc | apply Kd.R_drewN | apply Kd.R_drew)); exact HO231.out⟩, ⟨by repeat (first | (with_reducible first | exact HB.out | apply below_alloc | apply pw_below_drewN | apply below_drew1) | exact HB.out)⟩⟩
        case round =>
          clear H'
          try clear c1
          try clear c2
          try clear p2
          try clear c3
          try clear c4
          try clear c7
          try clear c9
          try clear c11
          try clear c12
          try clear c18
          try clear c20
          try clear p2
          obtain ⟨x10_2, x11_2, x12_2, rfl, rfl, HA, HK2, HO_10, HB⟩ := hrel
          cases gk with
          | zero => exact absurd HA.out (by simp [spec_LabelSet.l0])
          | succ k2 =>
            have H := HA.out
            clear HA
            simp only [spec_LabelSet.l0] at H
            by_cases c23 : x12_2 < (l0.length : Int)
            · rw [if_pos c23] at H
              have c23b0 : decide (x12_2 < (l0.length : Int)) = true := decide_eq_true c23
              clear c23
              have HC24 := Aside0.mk H
              clear H
              go_upto_region 9 with (fail)
              go_cut [60] (fun v60 wc => ∃ (kq : Nat) (x60_23 : Bool), v60 = .bool x60_23 ∧ Aside0 (spec_LabelSet.j2 kq l0 a1 a2 x10_2 x11_2 x12_2 x60_23 = some (r1, r2)) ∧ Aside0 (kq ≤ k2) ∧ Aside0 (Kd.R k56 56 wc w.heap.size (fun _ => True) u10 x10_2) ∧ Aside0 (Below w.heap.size w wc))
              case first =>
                have H := HC24.out
                clear HC24
                by_cases c25 : x11_2 = true
                · subst c25
                  have H1 : (spec_LabelSet.j2 k2 l0 a1 a2 x10_2 true x12_2 false) = some (r1, r2) := by rw [if_pos rfl] at H; exact H
                  clear H
                  have H := H1
                  clear H1
                  have H' := Aside0.mk H
                  clear H
                  go_wp2
                  go_meet
                  case rel => exact ⟨_, (false), (by first | rfl | (simp; done) | (simp [*]; done)), H', ⟨by have := HJ4.out; have := HK2.out; first | omega | exact Nat.le_refl _⟩, ⟨by (with_reducible repeat (first | apply Kd.R_alloc | apply Kd.R_drewN | apply Kd.R_drew)); exact HO_10.out⟩, ⟨by repeat (first | (with_reducible first | exact HB.out | apply below_alloc | apply pw_below_drewN | apply below_drew1) | exact HB.out)⟩⟩
                · replace c25 := Bool.eq_false_iff.mpr c25
                  subst c25
                  have H1 : (if 0 ≤ x12_2 then (spec_LabelSet.j2 k2 l0 a1 a2 x10_2 false x12_2 (!(Op.bytesLess (((rd_T56 l0 x12_2).f0).toList) a1.toList))) else (none)) = some (r1, r2) := by rw [if_neg (show ¬ (false = true) by decide)] at H; exact H
                  clear H
                  have H := H1
                  clear H1
                  by_cases c26 : 0 ≤ x12_2
                  · rw [if_pos c26] at H
                    have c26b0 : decide (0 ≤ x12_2) = true := decide_eq_true c26
                    clear c26
                    (first | rw [c26b0] | (simp only [i64_w, i32_w]; rw [c26b0]) | skip)
                    have H' := Aside0.mk H
                    clear H
                    have p235 : 0 ≤ (x12_2 : Int) := of_decide_eq_true (by first | (with_reducible assumption) | assumption)
                    have q235 : x12_2 < (l0.length : Int) := of_decide_eq_true (by first | (with_reducible assumption) | assumption)
                    obtain ⟨ad235, e235, hx235_0, hx235_1⟩ := at_T56 HR0.out x12_2 p235 q235
                    cases e235
                    replace hx235_0 := (HB.out.cell (World.block_lt_of_cell? w _ hx235_0)).trans hx235_0
                    replace hx235_1 := (HB.out.cell (World.block_lt_of_cell? w _ hx235_1)).trans hx235_1
                    replace p235 := eq_true p235
                    replace q235 := eq_true q235
                    go_wp2
                    go_meet
                    case rel => exact ⟨_, (!(Op.bytesLess (((rd_T56 l0 x12_2).f0).toList) a1.toList)), (by first | rfl | (simp; done) | (simp [*]; done)), H', ⟨by have := HJ4.out; have := HK2.out; first | omega | exact Nat.le_refl _⟩, ⟨by (with_reducible repeat (first | apply Kd.R_alloc | apply Kd.R_drewN | apply Kd.R_drew)); exact HO_10.out⟩, ⟨by repeat (first | (with_reducible first | exact HB.out | apply below_alloc | apply pw_below_drewN | apply below_drew1) | exact HB.out)⟩⟩
                  · rw [if_neg c26] at H
                    exact absurd H (by simp)
              case rest =>
                clear HC24
                try clear c1
                try clear c2
                try clear p2
                try clear q2
                try clear hx2
                try clear c3
                try clear c4
                try clear c7
                try clear c9
                try clear c11
                try clear c12
                try clear c18
                try clear c20
                try clear c23
                try clear c23b0
                try clear p23
                try clear q23
                try clear hx23
                try clear c25
                try clear c26
                try clear c26b0
                try clear hx235_0
                try clear hx235_1
                try clear p2
                try clear p235
                try clear q235
                obtain ⟨kq, x60_23, rfl, HA, HJ23, HO_10, HB⟩ := hcut
                cases kq with
                | zero => exact absurd HA.out (by simp [spec_LabelSet.j2])
                | succ kj23 =>
                  have H := HA.out
                  clear HA
                  simp only [spec_LabelSet.j2] at H
                  by_cases c27 : x60_23 = true
                  · subst c27
                    have H1 : (if x10_2.length < 4398046511104 then ((some (x10_2 ++ [(⟨a1, a2⟩ : S56)] : List (S56))).bind fun y236 => (if 0 ≤ x12_2 then (if x12_2 < (l0.length : Int) then (if ((rd_T56 l0 x12_2).f0).toList = a1.toList then (spec_LabelSet.l0 kj23 l0 a1 a2 y236 true (wrap64 (x12_2 + 1))) else (if y236.length < 4398046511104 then (spec_LabelSet.l0 kj23 l0 a1 a2 (y236 ++ [(⟨(rd_T56 l0 x12_2).f0, (rd_T56 l0 x12_2).f1⟩ : S56)]) true (wrap64 (x12_2 + 1))) else (none))) else (none)) else (none))) else (none)) = some (r1, r2) := by rw [if_pos rfl] at H; exact H
                    clear H
                    have H := H1
                    clear H1
                    by_cases c28 : x10_2.length < 4398046511104
                    · rw [if_pos c28] at H
                      have LMc28 := Aside0.mk c28
                      clear c28
                      obtain ⟨y236, hy236⟩ : ∃ y_ : List (S56), y_ = (x10_2 ++ [(⟨a1, a2⟩ : S56)]) := ⟨_, rfl⟩
                      replace H : (if 0 ≤ x12_2 then (if x12_2 < (l0.length : Int) then (if ((rd_T56 l0 x12_2).f0).toList = a1.toList then (spec_LabelSet.l0 kj23 l0 a1 a2 y236 true (wrap64 (x12_2 + 1))) else (if y236.length < 4398046511104 then (spec_LabelSet.l0 kj23 l0 a1 a2 (y236 ++ [(⟨(rd_T56 l0 x12_2).f0, (rd_T56 l0 x12_2).f1⟩ : S56)]) true (wrap64 (x12_2 + 1))) else (none))) else (none)) else (none)) = some (r1, r2) := by first | (rw [hy236]; with_reducible exact H) | (have H2_ := (Option.bind_some _ _).symm.trans H; rw [hy236]; with_reducible exact H2_) | (have H2_ := (Option.bind_some _ _).symm.trans H; with_reducible exact H2_) | with_reducible exact H | (rw [hy236]; exact H) | exact H
                      have Ny236 := Aside0.mk hy236
                      clear hy236
                      by_cases c29 : 0 ≤ x12_2
                      · rw [if_pos c29] at H
                        have c29b0 : decide (0 ≤ x12_2) = true := decide_eq_true c29
                        clear c29
                        by_cases c30 : x12_2 < (l0.length : Int)
                        · rw [if_pos c30] at H
                          have c30b0 : decide (x12_2 < (l0.length : Int)) = true := decide_eq_true c30
                          clear c30
                          by_cases c31 : ((rd_T56 l0 x12_2).f0).toList = a1.toList
                          · rw [if_pos c31] at H
                            have c31b0 : (((rd_T56 l0 x12_2).f0).toList == a1.toList) = true := beq_iff_eq.mpr c31
                            have c31b1 : (((rd_T56 l0 x12_2).f0).toList != a1.toList) = false := bne_eq_false_iff_eq.mpr c31
                            clear c31
                            have H' := Aside0.mk H
                            clear H
                            go_wp2_with (first | ((with_reducible refine gate_builtin (b := .append) (xs := #[.tmp 61, .tmp 65]) rfl ?_); (try (refine gate_guard (by rfl) ?_; dsimp only)); at_builtin; refine Kd.R_append k56 (w0 := w) w.heap.size rfl (.tmp 61) (.tmp 65) 24 56 (.agg #[(.string ⟨#[]⟩), (.string ⟨#[]⟩)]) 32 rfl Try.underlying24 info56 rfl (by decide) (by omega) u10 x10_2 (⟨a1, a2⟩ : S56) [.string a1, .string a2] (fun _ => True) (fun _ => False) rfl rfl ?aP (fun _ hk => hk.elim) ?aF ?aO ?aB ?aS ?aL ?_; (case aP => exact k56_mkM _ _ _ (⟨a1, a2⟩ : S56)); (case aB => exact (by repeat (first | (with_reducible first | exact HB.out | apply below_alloc | apply pw_below_drewN | apply below_drew1) | exact HB.out))); (case aF => exact (fun _ _ => trivial)); (case aO => exact (by (with_reducible repeat (first | apply Kd.R_alloc | apply Kd.R_drewN | apply Kd.R_drew)); exact HO_10.out)); (case aS => exact (below_size (by repeat (first | (with_reducible first | exact HB.out | apply below_alloc | apply pw_below_drewN | apply below_drew1) | exact HB.out)))); (case aL => have := LMc28.out; omega); intro v237 w32 ho hb hg hat; rw [← Ny236.out] at ho; have n0_ := Aside0.mk (hb); have n1_ := Aside0.mk (ho); clear HB; clear HO_10; have HB := n0_; have HO238 := n1_; clear n0_ n1_; clear ho hb hg hat; have p239 : 0 ≤ (x12_2 : Int) := of_decide_eq_true (by first | (with_reducible assumption) | assumption); have q239 : x12_2 < (l0.length : Int) := of_decide_eq_true (by first | (with_reducible assumption) | assumption); obtain ⟨ad239, e239, hx239_0, hx239_1⟩ := at_T56 HR0.out x12_2 p239 q239; cases e239; replace hx239_0 := (HB.out.cell (World.block_lt_of_cell? w _ hx239_0)).trans hx239_0; replace hx239_1 := (HB.out.cell (World.block_lt_of_cell? w _ hx239_1)).trans hx239_1; replace p239 := eq_true p239; replace q239 := eq_true q239))
                            go_roundg kj23
                            case measure => have := HJ4.out; have := HK2.out; have := HJ23.out; omega
                            case rel => exact ⟨(y236), (true), (wrap64 (x12_2 + 1)), (by first | rfl | (simp; done) | (simp [*]; done)), (by first | rfl | (simp; done) | (simp [*]; done)), H', ⟨by have := HJ4.out; have := HK2.out; have := HJ23.out; omega⟩, ⟨by (with_reducible repeat (first | apply Kd.R_alloc | apply Kd.R_drewN | apply Kd.R_drew)); exact HO238.out⟩, ⟨by repeat (first | (with_reducible first | exact HB.out | apply below_alloc | apply pw_below_drewN | apply below_drew1) | exact HB.out)⟩⟩
                          · rw [if_neg c31] at H
                            have c31b0 : (((rd_T56 l0 x12_2).f0).toList == a1.toList) = false := beq_eq_false_iff_ne.mpr c31
                            have c31b1 : (((rd_T56 l0 x12_2).f0).toList != a1.toList) = true := bne_iff_ne.mpr c31
                            by_cases c33 : y236.length < 4398046511104
                            · rw [if_pos c33] at H
                              have LMc33 := Aside0.mk c33
                              clear c33
                              obtain ⟨y241, hy241⟩ : ∃ y_ : List (S56), y_ = (y236 ++ [(⟨(rd_T56 l0 x12_2).f0, (rd_T56 l0 x12_2).f1⟩ : S56)]) := ⟨_, rfl⟩
                              replace H : (spec_LabelSet.l0 kj23 l0 a1 a2 y241 true (wrap64 (x12_2 + 1))) = some (r1, r2) := by first | (rw [hy241]; with_reducible exact H) | (have H2_ := (Option.bind_some _ _).symm.trans H; rw [hy241]; with_reducible exact H2_) | (have H2_ := (Option.bind_some _ _).symm.trans H; with_reducible exact H2_) | with_reducible exact H | (rw [hy241]; exact H) | exact H
                              have Ny241 := Aside0.mk hy241
                              clear hy241
                              have H' := Aside0.mk H
                              clear H
                              go_wp2_with (first | ((with_reducible refine gate_builtin (b := .append) (xs := #[.tmp 61, .tmp 65]) rfl ?_); (try (refine gate_guard (by rfl) ?_; dsimp only)); at_builtin; refine Kd.R_append k56 (w0 := w) w.heap.size rfl (.tmp 61) (.tmp 65) 24 56 (.agg #[(.string ⟨#[]⟩), (.string ⟨#[]⟩)]) 32 rfl Try.underlying24 info56 rfl (by decide) (by omega) u10 x10_2 (⟨a1, a2⟩ : S56) [.string a1, .string a2] (fun _ => True) (fun _ => False) rfl rfl ?aP (fun _ hk => hk.elim) ?aF ?aO ?aB ?aS ?aL ?_; (case aP => exact k56_mkM _ _ _ (⟨a1, a2⟩ : S56)); (case aB => exact (by repeat (first | (with_reducible first | exact HB.out | apply below_alloc | apply pw_below_drewN | apply below_drew1) | exact HB.out))); (case aF => exact (fun _ _ => trivial)); (case aO => exact (by (with_reducible repeat (first | apply Kd.R_alloc | apply Kd.R_drewN | apply Kd.R_drew)); exact HO_10.out)); (case aS => exact (below_size (by repeat (first | (with_reducible first | exact HB.out | apply below_alloc | apply pw_below_drewN | apply below_drew1) | exact HB.out)))); (case aL => have := LMc28.out; omega); intro v237 w34 ho hb hg hat; rw [← Ny236.out] at ho; have n0_ := Aside0.mk (hb); have n1_ := Aside0.mk (ho); clear HB; clear HO_10; have HB := n0_; have HO238 := n1_; clear n0_ n1_; clear ho hb hg hat; have p239 : 0 ≤ (x12_2 : Int) := of_decide_eq_true (by first | (with_reducible assumption) | assumption); have q239 : x12_2 < (l0.length : Int) := of_decide_eq_true (by first | (with_reducible assumption) | assumption); obtain ⟨ad239, e239, hx239_0, hx239_1⟩ := at_T56 HR0.out x12_2 p239 q239; cases e239; replace hx239_0 := (HB.out.cell (World.block_lt_of_cell? w _ hx239_0)).trans hx239_0; replace hx239_1 := (HB.out.cell (World.block_lt_of_cell? w _ hx239_1)).trans hx239_1; replace p239 := eq_true p239; replace q239 := eq_true q239; have p240 : 0 ≤ (x12_2 : Int) := of_decide_eq_true (by first | (with_reducible assumption) | assumption); have q240 : x12_2 < (l0.length : Int) := of_decide_eq_true (by first | (with_reducible assumption) | assumption); obtain ⟨ad240, e240, hx240_0, hx240_1⟩ := at_T56 HR0.out x12_2 p240 q240; obtain rfl : ad239 = ad240 := (by injection e240); replace hx240_0 := (HB.out.cell (World.block_lt_of_cell? w _ hx240_0)).trans hx240_0; replace hx240_1 := (HB.out.cell (World.block_lt_of_cell? w _ hx240_1)).trans hx240_1; replace p240 := eq_true p240; replace q240 := eq_true q240) | ((with_reducible refine gate_builtin (b := .append) (xs := #[.tmp 74, .tmp 79]) rfl ?_); (try (refine gate_guard (by rfl) ?_; dsimp only)); at_builtin; refine Kd.R_append k56 (w0 := w) w.heap.size rfl (.tmp 74) (.tmp 79) 24 56 (.agg #[(.string ⟨#[]⟩), (.string ⟨#[]⟩)]) 32 rfl Try.underlying24 info56 rfl (by decide) (by omega) v237 y236 (⟨(rd_T56 l0 x12_2).f0, (rd_T56 l0 x12_2).f1⟩ : S56) [.string ((rd_T56 l0 x12_2).f0), .string ((rd_T56 l0 x12_2).f1)] (fun _ => True) (fun _ => False) rfl rfl ?aP (fun _ hk => hk.elim) ?aF ?aO ?aB ?aS ?aL ?_; (case aP => exact k56_mkM _ _ _ (⟨(rd_T56 l0 x12_2).f0, (rd_T56 l0 x12_2).f1⟩ : S56)); (case aB => exact (by repeat (first | (with_reducible first | exact HB.out | apply below_alloc | apply pw_below_drewN | apply below_drew1) | exact HB.out))); (case aF => exact (fun _ _ => trivial)); (case aO => exact (by (with_reducible repeat (first | apply Kd.R_alloc | apply Kd.R_drewN | apply Kd.R_drew)); exact HO238.out)); (case aS => exact (below_size (by repeat (first | (with_reducible first | exact HB.out | apply below_alloc | apply pw_below_drewN | apply below_drew1) | exact HB.out)))); (case aL => have := LMc33.out; omega); intro v242 w35 ho hb hg hat; rw [← Ny241.out] at ho; have n0_ := Aside0.mk (hb); have n1_ := Aside0.mk (ho); clear HB; clear HO238; have HB := n0_; have HO243 := n1_; clear n0_ n1_; clear ho hb hg hat))
                              go_roundg kj23
                              case measure => have := HJ4.out; have := HK2.out; have := HJ23.out; omega
                              case rel => exact ⟨(y241), (true), (wrap64 (x12_2 + 1)), (by first | rfl | (simp; done) | (simp [*]; done)), (by first | rfl | (simp; done) | (simp [*]; done)), H', ⟨by have := HJ4.out; have := HK2.out; have := HJ23.out; omega⟩, ⟨by (with_reducible repeat (first | apply Kd.R_alloc | apply Kd.R_drewN | apply Kd.R_drew)); exact HO243.out⟩, ⟨by repeat (first | (with_reducible first | exact HB.out | apply below_alloc | apply pw_below_drewN | apply below_drew1) | exact HB.out)⟩⟩
                            · rw [if_neg c33] at H
                              exact absurd H (by simp)
                        · rw [if_neg c30] at H
                          exact absurd H (by simp)
                      · rw [if_neg c29] at H
                        exact absurd H (by simp)
                    · rw [if_neg c28] at H
                      exact absurd H (by simp)
                  · replace c27 := Bool.eq_false_iff.mpr c27
                    subst c27
                    have H1 : (if 0 ≤ x12_2 then (if x12_2 < (l0.length : Int) then (if ((rd_T56 l0 x12_2).f0).toList = a1.toList then (spec_LabelSet.l0 kj23 l0 a1 a2 x10_2 x11_2 (wrap64 (x12_2 + 1))) else (if x10_2.length < 4398046511104 then (spec_LabelSet.l0 kj23 l0 a1 a2 (x10_2 ++ [(⟨(rd_T56 l0 x12_2).f0, (rd_T56 l0 x12_2).f1⟩ : S56)]) x11_2 (wrap64 (x12_2 + 1))) else (none))) else (none)) else (none)) = some (r1, r2) := by rw [if_neg (show ¬ (false = true) by decide)] at H; exact H
                    clear H
                    have H := H1
                    clear H1
                    by_cases c36 : 0 ≤ x12_2
                    · rw [if_pos c36] at H
                      have c36b0 : decide (0 ≤ x12_2) = true := decide_eq_true c36
                      clear c36
                      by_cases c37 : x12_2 < (l0.length : Int)
                      · rw [if_pos c37] at H
                        have c37b0 : decide (x12_2 < (l0.length : Int)) = true := decide_eq_true c37
                        clear c37
                        by_cases c38 : ((rd_T56 l0 x12_2).f0).toList = a1.toList
                        · rw [if_pos c38] at H
                          have c38b0 : (((rd_T56 l0 x12_2).f0).toList == a1.toList) = true := beq_iff_eq.mpr c38
                          have c38b1 : (((rd_T56 l0 x12_2).f0).toList != a1.toList) = false := bne_eq_false_iff_eq.mpr c38
                          clear c38
                          have H' := Aside0.mk H
                          clear H
                          have p244 : 0 ≤ (x12_2 : Int) := of_decide_eq_true (by first | (with_reducible assumption) | assumption)
                          have q244 : x12_2 < (l0.length : Int) := of_decide_eq_true (by first | (with_reducible assumption) | assumption)
                          obtain ⟨ad244, e244, hx244_0, hx244_1⟩ := at_T56 HR0.out x12_2 p244 q244
                          cases e244
                          replace hx244_0 := (HB.out.cell (World.block_lt_of_cell? w _ hx244_0)).trans hx244_0
                          replace hx244_1 := (HB.out.cell (World.block_lt_of_cell? w _ hx244_1)).trans hx244_1
                          replace p244 := eq_true p244
                          replace q244 := eq_true q244
                          go_wp2
                          go_roundg kj23
                          case measure => have := HJ4.out; have := HK2.out; have := HJ23.out; omega
                          case rel => exact ⟨(x10_2), (x11_2), (wrap64 (x12_2 + 1)), (by first | rfl | (simp; done) | (simp [*]; done)), (by first | rfl | (simp; done) | (simp [*]; done)), H', ⟨by have := HJ4.out; have := HK2.out; have := HJ23.out; omega⟩, ⟨by (with_reducible repeat (first | apply Kd.R_alloc | apply Kd.R_drewN | apply Kd.R_drew)); exact HO_10.out⟩, ⟨by repeat (first | (with_reducible first | exact HB.out | apply below_alloc | apply pw_below_drewN | apply below_drew1) | exact HB.out)⟩⟩
                        · rw [if_neg c38] at H
                          have c38b0 : (((rd_T56 l0 x12_2).f0).toList == a1.toList) = false := beq_eq_false_iff_ne.mpr c38
                          have c38b1 : (((rd_T56 l0 x12_2).f0).toList != a1.toList) = true := bne_iff_ne.mpr c38
                          by_cases c39 : x10_2.length < 4398046511104
                          · rw [if_pos c39] at H
                            have LMc39 := Aside0.mk c39
                            clear c39
                            obtain ⟨y246, hy246⟩ : ∃ y_ : List (S56), y_ = (x10_2 ++ [(⟨(rd_T56 l0 x12_2).f0, (rd_T56 l0 x12_2).f1⟩ : S56)]) := ⟨_, rfl⟩
                            replace H : (spec_LabelSet.l0 kj23 l0 a1 a2 y246 x11_2 (wrap64 (x12_2 + 1))) = some (r1, r2) := by first | (rw [hy246]; with_reducible exact H) | (have H2_ := (Option.bind_some _ _).symm.trans H; rw [hy246]; with_reducible exact H2_) | (have H2_ := (Option.bind_some _ _).symm.trans H; with_reducible exact H2_) | with_reducible exact H | (rw [hy246]; exact H) | exact H
                            have Ny246 := Aside0.mk hy246
                            clear hy246
                            have H' := Aside0.mk H
                            clear H
                            have p244 : 0 ≤ (x12_2 : Int) := of_decide_eq_true (by first | (with_reducible assumption) | assumption)
                            have q244 : x12_2 < (l0.length : Int) := of_decide_eq_true (by first | (with_reducible assumption) | assumption)
                            obtain ⟨ad244, e244, hx244_0, hx244_1⟩ := at_T56 HR0.out x12_2 p244 q244
                            cases e244
                            replace hx244_0 := (HB.out.cell (World.block_lt_of_cell? w _ hx244_0)).trans hx244_0
                            replace hx244_1 := (HB.out.cell (World.block_lt_of_cell? w _ hx244_1)).trans hx244_1
                            replace p244 := eq_true p244
                            replace q244 := eq_true q244
                            have p245 : 0 ≤ (x12_2 : Int) := of_decide_eq_true (by first | (with_reducible assumption) | assumption)
                            have q245 : x12_2 < (l0.length : Int) := of_decide_eq_true (by first | (with_reducible assumption) | assumption)
                            obtain ⟨ad245, e245, hx245_0, hx245_1⟩ := at_T56 HR0.out x12_2 p245 q245
                            obtain rfl : ad244 = ad245 := (by injection e245)
                            replace hx245_0 := (HB.out.cell (World.block_lt_of_cell? w _ hx245_0)).trans hx245_0
                            replace hx245_1 := (HB.out.cell (World.block_lt_of_cell? w _ hx245_1)).trans hx245_1
                            replace p245 := eq_true p245
                            replace q245 := eq_true q245
                            go_wp2_with (first | ((with_reducible refine gate_builtin (b := .append) (xs := #[.tmp 74, .tmp 79]) rfl ?_); (try (refine gate_guard (by rfl) ?_; dsimp only)); at_builtin; refine Kd.R_append k56 (w0 := w) w.heap.size rfl (.tmp 74) (.tmp 79) 24 56 (.agg #[(.string ⟨#[]⟩), (.string ⟨#[]⟩)]) 32 rfl Try.underlying24 info56 rfl (by decide) (by omega) u10 x10_2 (⟨(rd_T56 l0 x12_2).f0, (rd_T56 l0 x12_2).f1⟩ : S56) [.string ((rd_T56 l0 x12_2).f0), .string ((rd_T56 l0 x12_2).f1)] (fun _ => True) (fun _ => False) rfl rfl ?aP (fun _ hk => hk.elim) ?aF ?aO ?aB ?aS ?aL ?_; (case aP => exact k56_mkM _ _ _ (⟨(rd_T56 l0 x12_2).f0, (rd_T56 l0 x12_2).f1⟩ : S56)); (case aB => exact (by repeat (first | (with_reducible first | exact HB.out | apply below_alloc | apply pw_below_drewN | apply below_drew1) | exact HB.out))); (case aF => exact (fun _ _ => trivial)); (case aO => exact (by (with_reducible repeat (first | apply Kd.R_alloc | apply Kd.R_drewN | apply Kd.R_drew)); exact HO_10.out)); (case aS => exact (below_size (by repeat (first | (with_reducible first | exact HB.out | apply below_alloc | apply pw_below_drewN | apply below_drew1) | exact HB.out)))); (case aL => have := LMc39.out; omega); intro v247 w40 ho hb hg hat; rw [← Ny246.out] at ho; have n0_ := Aside0.mk (hb); have n1_ := Aside0.mk (ho); clear HB; clear HO_10; have HB := n0_; have HO248 := n1_; clear n0_ n1_; clear ho hb hg hat))
                            go_roundg kj23
                            case measure => have := HJ4.out; have := HK2.out; have := HJ23.out; omega
                            case rel => exact ⟨(y246), (x11_2), (wrap64 (x12_2 + 1)), (by first | rfl | (simp; done) | (simp [*]; done)), (by first | rfl | (simp; done) | (simp [*]; done)), H', ⟨by have := HJ4.out; have := HK2.out; have := HJ23.out; omega⟩, ⟨by (with_reducible repeat (first | apply Kd.R_alloc | apply Kd.R_drewN | apply Kd.R_drew)); exact HO248.out⟩, ⟨by repeat (first | (with_reducible first | exact HB.out | apply below_alloc | apply pw_below_drewN | apply below_drew1) | exact HB.out)⟩⟩
                          · rw [if_neg c39] at H
                            exact absurd H (by simp)
                      · rw [if_neg c37] at H
                        exact absurd H (by simp)
                    · rw [if_neg c36] at H
                      exact absurd H (by simp)
            · rw [if_neg c23] at H
              have c23b0 : decide (x12_2 < (l0.length : Int)) = false := decide_eq_false c23
              clear c23
              by_cases c41 : x11_2 = true
              · subst c41
                have H1 : (some (x10_2, true)) = some (r1, r2) := by rw [if_pos rfl] at H; exact H
                clear H
                have H := H1
                clear H1
                simp only [Option.some.injEq, Prod.mk.injEq] at H
                obtain ⟨rfl, rfl⟩ := H
                go_wp2
                go_ret2
                exact ⟨_, by first | rfl | (simp [errW_none, errW_some] <;> rfl) | (simp [*, errW_none, errW_some] <;> rfl), by (with_reducible repeat (first | apply Kd.R_alloc | apply Kd.R_drewN | apply Kd.R_drew)); exact HO_10.out, by repeat (first | (with_reducible first | exact HB.out | apply below_alloc | apply pw_below_drewN | apply below_drew1) | exact HB.out)⟩
              · replace c41 := Bool.eq_false_iff.mpr c41
                subst c41
                have H1 : (if x10_2.length < 4398046511104 then (some ((x10_2 ++ [(⟨a1, a2⟩ : S56)]), true)) else (none)) = some (r1, r2) := by rw [if_neg (show ¬ (false = true) by decide)] at H; exact H
                clear H
                have H := H1
                clear H1
                by_cases c42 : x10_2.length < 4398046511104
                · rw [if_pos c42] at H
                  have LMc42 := Aside0.mk c42
                  clear c42
                  obtain ⟨y232, hy232⟩ : ∃ y_ : List (S56), y_ = (x10_2 ++ [(⟨a1, a2⟩ : S56)]) := ⟨_, rfl⟩
                  replace H : (some (y232, true)) = some (r1, r2) := by first | (rw [hy232]; with_reducible exact H) | (have H2_ := (Option.bind_some _ _).symm.trans H; rw [hy232]; with_reducible exact H2_) | (have H2_ := (Option.bind_some _ _).symm.trans H; with_reducible exact H2_) | with_reducible exact H | (rw [hy232]; exact H) | exact H
                  have Ny232 := Aside0.mk hy232
                  clear hy232
                  simp only [Option.some.injEq, Prod.mk.injEq] at H
                  obtain ⟨rfl, rfl⟩ := H
                  go_wp2_with (first | ((with_reducible refine gate_builtin (b := .append) (xs := #[.tmp 83, .tmp 87]) rfl ?_); (try (refine gate_guard (by rfl) ?_; dsimp only)); at_builtin; refine Kd.R_append k56 (w0 := w) w.heap.size rfl (.tmp 83) (.tmp 87) 24 56 (.agg #[(.string ⟨#[]⟩), (.string ⟨#[]⟩)]) 32 rfl Try.underlying24 info56 rfl (by decide) (by omega) u10 x10_2 (⟨a1, a2⟩ : S56) [.string a1, .string a2] (fun _ => True) (fun _ => False) rfl rfl ?aP (fun _ hk => hk.elim) ?aF ?aO ?aB ?aS ?aL ?_; (case aP => exact k56_mkM _ _ _ (⟨a1, a2⟩ : S56)); (case aB => exact (by repeat (first | (with_reducible first | exact HB.out | apply below_alloc | apply pw_below_drewN | apply below_drew1) | exact HB.out))); (case aF => exact (fun _ _ => trivial)); (case aO => exact (by (with_reducible repeat (first | apply Kd.R_alloc | apply Kd.R_drewN | apply Kd.R_drew)); exact HO_10.out)); (case aS => exact (below_size (by repeat (first | (with_reducible first | exact HB.out | apply below_alloc | apply pw_below_drewN | apply below_drew1) | exact HB.out)))); (case aL => have := LMc42.out; omega); intro v233 w43 ho hb hg hat; rw [← Ny232.out] at ho; have n0_ := Aside0.mk (hb); have n1_ := Aside0.mk (ho); clear HB; clear HO_10; have HB := n0_; have HO234 := n1_; clear n0_ n1_; clear ho hb hg hat))
                  go_ret2
                  exact ⟨_, by first | rfl | (simp [errW_none, errW_some] <;> rfl) | (simp [*, errW_none, errW_some] <;> rfl), by (with_reducible repeat (first | apply Kd.R_alloc | apply Kd.R_drewN | apply Kd.R_drew)); exact HO234.out, by repeat (first | (with_reducible first | exact HB.out | apply below_alloc | apply pw_below_drewN | apply below_drew1) | exact HB.out)⟩
                · rw [if_neg c42] at H
                  exact absurd H (by simp)

end Go.Proofs.Ytpjpnppoejnafaa.G

/- PLabSet -/
/-
  A label is set: the reference's answer.
-/
namespace Go.Proofs.Ytpjpnppoejnafaa.G
open Go.RowKit Go.Proofs.YtpjpnppoejnafaaW.PrintWords Go.Proofs.YtpjpnppoejnafaaW.PrintLast Go.Proofs.YtpjpnppoejnafaaW.PrintMore
set_option linter.unusedVariables false
set_option linter.unusedSimpArgs false
/-- Ahead of the first that is not less, in place of those of the same key. -/
def insB (key v : ByteArray) : Bool → List ILab → List ILab
  | done, [] => if done then [] else [⟨key, v⟩]
  | done, y :: ys =>
    if !done && !(Op.bytesLess y.f0.toList key.toList) then ⟨key, v⟩ :: (if y.f0.toList = key.toList then insB key v true ys else y :: insB key v true ys)
    else if y.f0.toList = key.toList then insB key v done ys else y :: insB key v done ys
theorem insB_len (key v : ByteArray) : ∀ (done : Bool) (l : List ILab), (insB key v done l).length ≤ l.length + 1
  | done, [] => by rw [insB]; cases done <;> simp
  | done, y :: ys => by
    have h1 := insB_len key v true ys
    have h2 := insB_len key v done ys
    have h3 : (insB key v true ys).length ≤ ys.length := by
      have key2 : ∀ l : List ILab, (insB key v true l).length ≤ l.length := by
        intro l
        induction l with
        | nil => simp [insB]
        | cons z zs ih => rw [insB]; simp only [Bool.not_true, Bool.false_and, Bool.false_eq_true, if_false]; split <;> simp <;> omega
      exact key2 ys
    rw [insB]
    split
    · split <;> simp <;> omega
    · split <;> simp <;> omega
theorem insB_mem (key v : ByteArray) : ∀ (done : Bool) (l : List ILab) (x : ILab), x ∈ insB key v done l → x ∈ l ∨ x = ⟨key, v⟩
  | done, [], x, h => by rw [insB] at h; cases done <;> simp at h; exact .inr h
  | done, y :: ys, x, h => by
    rw [insB] at h
    have go : ∀ d, x ∈ insB key v d ys → x ∈ y :: ys ∨ x = ⟨key, v⟩ := fun d hx => (insB_mem key v d ys x hx).imp_left (fun h => by simp [h])
    split at h
    · rcases List.mem_cons.1 h with h | h
      · exact .inr h
      · split at h
        · exact go _ h
        · rcases List.mem_cons.1 h with h | h
          · exact .inl (by simp [h])
          · exact go _ h
    · split at h
      · exact go _ h
      · rcases List.mem_cons.1 h with h | h
        · exact .inl (by simp [h])
        · exact go _ h
theorem specLabelSet_l0 (xs : List ILab) (key v : ByteArray) (hl : xs.length ≤ 1048576) : ∀ (d i : Nat) (ys : List ILab) (done : Bool), i + d = xs.length → ys.length ≤ 2 * i + 1 →
    Ev (fun k => spec_LabelSet.l0 k xs key v ys done i) (ys ++ insB key v done (xs.drop i), true)
  | 0, i, ys, done, hd, hy => by
    refine Ev.step (fun k => by rw [spec_LabelSet.l0]) (ev_if_neg (by omega) ?_)
    rw [List.drop_of_length_le (by omega), insB]
    cases done with
    | true => exact ev_if_pos rfl (ev_some (by simp))
    | false => exact ev_if_neg Bool.false_ne_true (ev_if_pos (by omega) (ev_some (by simp)))
  | d + 1, i, ys, done, hd, hy => by
    have hi : i < xs.length := by omega
    have fin : ∀ (zs : List ILab) (dn : Bool), zs.length ≤ 2 * i + 3 → Ev (fun k => spec_LabelSet.l0 k xs key v zs dn ((i + 1 : Nat) : Int)) (zs ++ insB key v dn (xs.drop (i + 1)), true) := fun zs dn h1 => specLabelSet_l0 xs key v hl d (i + 1) zs dn (by omega) (by omega)
    have j2 : ∀ b : Bool, b = (!done && !(Op.bytesLess xs[i].f0.toList key.toList)) → Ev (fun k => spec_LabelSet.j2 k xs key v ys done i b) (ys ++ insB key v done (xs.drop i), true) := by
      intro b hb
      rw [List.drop_eq_getElem_cons hi, insB, ← hb]
      refine Ev.step (fun k => by rw [spec_LabelSet.j2]) ?_
      simp only [rdIL hi, wsucc hi (by omega : xs.length ≤ 9223372036854775807), Option.bind_some]
      cases b with
      | true =>
        rw [if_pos rfl]
        refine ev_if_pos rfl (ev_if_pos (by omega) (ev_if_pos (by omega) (ev_if_pos (by omega) ?_)))
        by_cases c : xs[i].f0.toList = key.toList
        · rw [if_pos c]
          refine ev_if_pos c (ev_rw (fin (ys ++ [⟨key, v⟩]) true (by simp; omega)) (by simp))
        · rw [if_neg c]
          refine ev_if_neg c (ev_if_pos (by simp; omega) ?_)
          have e : (⟨xs[i].f0, xs[i].f1⟩ : ILab) = xs[i] := rfl
          refine ev_rw (specLabelSet_l0 xs key v hl d (i + 1) (ys ++ [⟨key, v⟩] ++ [xs[i]]) true (by omega) (by simp; omega)) (by simp)
      | false =>
        rw [if_neg Bool.false_ne_true]
        refine ev_if_neg Bool.false_ne_true (ev_if_pos (by omega) (ev_if_pos (by omega) ?_))
        by_cases c : xs[i].f0.toList = key.toList
        · rw [if_pos c]
          exact ev_if_pos c (fin ys done (by omega))
        · rw [if_neg c]
          refine ev_if_neg c (ev_if_pos (by omega) ?_)
          exact ev_rw (fin (ys ++ [xs[i]]) done (by simp; omega)) (by simp)
    refine Ev.step (fun k => by rw [spec_LabelSet.l0]) (ev_if_pos (by omega) ?_)
    cases done with
    | true => exact ev_if_pos rfl (j2 false (by simp))
    | false =>
      refine ev_if_neg Bool.false_ne_true (ev_if_pos (by omega) ?_)
      rw [rdIL hi]
      exact j2 _ (by simp)
theorem l1Labels_ev (xs : List ILab) (hl : xs.length ≤ 1048576) : Ev (fun _ => spec_l1Labels.f xs) xs := by
  unfold spec_l1Labels.f
  simp only [Option.bind_some, List.nil_append, List.length_nil, Nat.zero_add]
  exact ev_if_pos (by omega) (Ev.now _)
def setOk (xs : List ILab) (key v : ByteArray) : Bool := labsB xs && (nameB key && (nameB v && ((labGet xs key).2 || (xs.length : Int) != 8)))
def labSet (xs : List ILab) (key v : ByteArray) : List ILab × Bool := if setOk xs key v = true then (insB key v false xs, true) else (xs, false)
theorem specLabelSet_ev (xs : List ILab) (key v : ByteArray) (hw : wfILabs xs) (hl : xs.length ≤ 1048576) (hk : key.size ≤ 9223372036854775807) (hv : v.size ≤ 9223372036854775807) : Ev (fun k => spec_LabelSet.f k xs key v) (labSet xs key v) := by
  have bad : ∀ (b : Bool), b = true → setOk xs key v = false → Ev (fun k => spec_LabelSet.j0 k xs key v b) (labSet xs key v) := by
    intro b hb h
    unfold labSet
    rw [h, if_neg Bool.false_ne_true]
    exact Ev.step (fun k => by rw [spec_LabelSet.j0]) (ev_if_pos hb (Ev.bind (l1Labels_ev xs hl) (Ev.now _)))
  have good : ∀ (b : Bool), b = false → setOk xs key v = true → Ev (fun k => spec_LabelSet.j0 k xs key v b) (labSet xs key v) := by
    intro b hb h
    unfold labSet
    rw [h, if_pos rfl]
    refine Ev.step (fun k => by rw [spec_LabelSet.j0]) (ev_if_neg (by rw [hb]; exact Bool.false_ne_true) ?_)
    have := specLabelSet_l0 xs key v hl xs.length 0 [] false (by omega) (by simp)
    simpa using this
  unfold spec_LabelSet.f
  refine Ev.bind (specLabelGet_ev xs key hw.1) (Ev.bind (specLabelsOk_ev xs hw) ?_)
  cases h1 : labsB xs with
  | false => exact ev_if_neg Bool.false_ne_true (bad _ rfl (by simp [setOk, h1]))
  | true =>
    refine ev_if_pos rfl (Ev.bind (specNameOk_ev key hk) ?_)
    cases h2 : nameB key with
    | false => exact ev_if_neg Bool.false_ne_true (bad _ rfl (by simp [setOk, h2]))
    | true =>
      refine ev_if_pos rfl (Ev.bind (specNameOk_ev v hv) ?_)
      cases h3 : nameB v with
      | false => exact ev_if_neg Bool.false_ne_true (bad _ rfl (by simp [setOk, h3]))
      | true =>
        refine ev_if_pos rfl ?_
        cases h4 : (labGet xs key).2 with
        | true => exact ev_if_pos rfl (good _ rfl (by simp [setOk, h1, h2, h3, h4]))
        | false =>
          refine ev_if_neg Bool.false_ne_true ?_
          cases h5 : ((xs.length : Int) == 8) with
          | true => exact bad _ rfl (by have := beq_iff_eq.1 h5; simp only [setOk, h1, h2, h3, h4, Bool.true_and, Bool.false_or]; rw [bne, h5]; rfl)
          | false => exact good _ rfl (by simp only [setOk, h1, h2, h3, h4, Bool.true_and, Bool.false_or]; rw [bne, h5]; rfl)
theorem labSet_len (xs : List ILab) (key v : ByteArray) : (labSet xs key v).1.length ≤ xs.length + 1 := by
  unfold labSet
  split
  · exact insB_len key v false xs
  · show xs.length ≤ _; omega
theorem labSet_mem (xs : List ILab) (key v : ByteArray) (x : ILab) (h : x ∈ (labSet xs key v).1) : x ∈ xs ∨ x = ⟨key, v⟩ := by
  unfold labSet at h
  split at h
  · exact insB_mem key v false xs x h
  · exact .inl h
end Go.Proofs.Ytpjpnppoejnafaa.G

/- G98 -/
-- Laid by wip/g/gprint.py out of the translation, by the kit's print program. Lean checks it.
namespace Go.Proofs.Ytpjpnppoejnafaa.G
open Go.RowKit Go.Proofs.YtpjpnppoejnafaaW.PrintWords Go.Proofs.YtpjpnppoejnafaaW.PrintLast Go.Proofs.YtpjpnppoejnafaaW.PrintMore
attribute [local go_sem] max2_int min2_int max_two min_two max_three min_three max_four min_four   -- for this text's walks alone
set_option linter.unusedVariables false
set_option linter.unusedSimpArgs false

/-! ### spec_l1Draw: function 98 -/
def spec_l1Draw.l0 : Nat → List (S56) → Int → List Int → Int → Int → Option ((List (S56)) × Int × Int)
  | 0, _, _, _, _, _ => none
  | k + 1, x5, x6, x1000, x1001, x1002 => if x6 > 0 then ((spec_l1Name.f x1000 x1001 x1002).bind fun bt517 => ((spec_l1Name.f x1000 bt517.2.1 bt517.2.2).bind fun bt520 => ((spec_LabelSet.f k x5 bt517.1 bt520.1).bind fun bt523 => (spec_l1Draw.l0 k bt523.1 (wrap64 (x6 - 1)) x1000 bt520.2.1 bt520.2.2)))) else (some (x5, x1001, x1002))
def spec_l1Draw.f (k : Nat) (s0_0 : List Int) (s0_1 : Int) (s0_2 : Int) (a1 : Int) : Option ((List (S56)) × Int × Int) := (spec_l1Below.f s0_0 s0_1 s0_2 a1).bind fun bt514 => (spec_l1Draw.l0 k (([] : List (S56))) bt514.1 s0_0 bt514.2.1 bt514.2.2)
set_option maxHeartbeats 8000000 in
set_option maxRecDepth 100000 in
theorem spec_l1Draw.calls (k : Nat) (g : Nat) (s0_0 : List Int) (s0_1 : Int) (s0_2 : Int) (a1 : Int) (r1 : List (S56)) (r2 : Int) (r3 : Int) (w0 w : World) (hI : IsS112 w0 w g s0_0 s0_1 s0_2) (hB : Below w0.heap.size w0 w) (h : spec_l1Draw.f k s0_0 s0_1 s0_2 a1 = some (r1, r2, r3)) :
    Calls Try.prog 98 #[.pointer (some ⟨g, 0, none⟩), .int .i64 a1] w fun e w' => ∃ v0_ : Value, e = .returned (v0_) ∧ Kd.R k56 56 w' w.heap.size (fun _ => True) v0_ r1 ∧ IsS112 w0 w' g s0_0 r2 r3 ∧ Below w0.heap.size w0 w' ∧ KeepBut w w' g none := by
  have HI0 := Aside0.mk hI
  have HK := Aside0.mk (KeepBut.refl w g none)
  have HL := Aside0.mk hB.size
  clear hI
  have HW0 := Aside0.mk hB.size
  have HB := Aside0.mk hB
  clear hB
  have H : ((spec_l1Below.f s0_0 s0_1 s0_2 a1).bind fun bt514 => (spec_l1Draw.l0 k (([] : List (S56))) bt514.1 s0_0 bt514.2.1 bt514.2.2)) = some (r1, r2, r3) := h
  clear h
  obtain ⟨y511, hy511⟩ : ∃ y_ : List (S56), y_ = (([] : List (S56))) := ⟨_, rfl⟩
  replace H : ((spec_l1Below.f s0_0 s0_1 s0_2 a1).bind fun bt514 => (spec_l1Draw.l0 k y511 bt514.1 s0_0 bt514.2.1 bt514.2.2)) = some (r1, r2, r3) := by first | (rw [hy511]; with_reducible exact H) | (have H2_ := (Option.bind_some _ _).symm.trans H; rw [hy511]; with_reducible exact H2_) | (have H2_ := (Option.bind_some _ _).symm.trans H; with_reducible exact H2_) | with_reducible exact H | (rw [hy511]; exact H) | exact H
  have Ny511 := Aside0.mk hy511
  clear hy511
  replace H := Option.bind_eq_some_iff.mp H
  obtain ⟨⟨t514, t515, t516⟩, A30, H⟩ := H
  replace H : (spec_l1Draw.l0 k y511 t514 s0_0 t515 t516) = some (r1, r2, r3) := H
  have A3 := Aside0.mk A30
  clear A30
  have H' := Aside0.mk H
  clear H
  go_enter Try.func98, Try.ntmps98
  go_wp2_with (first | ((with_reducible refine gate_dst (N := 7) rfl ?_); refine Kd.R_lit k56 _ 56 ?hg (N := 7) ?hd (xs := ([] : List (S56))) (inner := []) (ok := fun _ => True) (okp := fun _ => True) ?hr ?hp (fun _ hk => hk) trivial (Below.refl _ _) (Nat.le_refl _) (by simp) ?_; (case hd => rfl); (case hg => rfl); (case hr => first | (go_simp; done) | (go_simp; rfl)); (case hp => exact (Reps.none _ _)); intro v512 w4 ho5 hb hg_ hnew_; clear hg_ hnew_; (first | rw [← Ny511.out] at ho5 | (simp only [Int.reduceToNat] at ho5; rw [← Ny511.out] at ho5)); have n0_ := Aside0.mk (Kd.R_lower ho5 (keep_size (w := w) (g := g) (row := none) (by repeat (first | (with_reducible first | exact HK.out | apply KeepBut.set_ | apply keep_drewN | apply keep_drew | apply keep_alloc) | exact HK.out)))); have n1_ := Aside0.mk (IsS112.below (by repeat (first | (with_reducible first | exact HI0.out | apply IsS112.alloc | apply IsS112.drewN | apply IsS112.drew | apply IsS112.set_1 | apply IsS112.set_2) | exact HI0.out)) hb); have n2_ := Aside0.mk (KeepBut.trans (by repeat (first | (with_reducible first | exact HK.out | apply KeepBut.set_ | apply keep_drewN | apply keep_drew | apply keep_alloc) | exact HK.out)) (KeepBut.of_below hb g none) (.inl rfl)); have n3_ := Aside0.mk (below_step (by repeat (first | (with_reducible first | exact HB.out | apply below_alloc | apply pw_below_drewN | apply below_drew1 | refine below_set ?_ (IsS112.ge HI0.out)) | exact HB.out)) hb); clear HI0; clear HK; clear HB; have HO513 := n0_; have HI0 := n1_; have HK := n2_; have HB := n3_; clear n0_ n1_ n2_ n3_; clear hb ho5) | ((with_reducible refine gate_callee (f := 95) rfl ?_); refine goesL_ (some 10) rfl rfl Try.func95 (by kernel_rfl) rfl #[.pointer (some ⟨g, 0, none⟩), .int .i64 a1] rfl (by (try simp only [List.map_toArray, List.map_cons, List.map_nil]); first | done | rfl | (simp only [List.length_drop, List.length_take]; rfl)) ?_; (with_reducible refine (spec_l1Below.calls g s0_0 s0_1 s0_2 a1 t514 t515 t516 w0 _ ?side1 ?side2 A3.out).mono ?_); (case side1 => repeat (first | (with_reducible first | exact HI0.out | apply IsS112.alloc | apply IsS112.drewN | apply IsS112.drew | apply IsS112.set_1 | apply IsS112.set_2) | exact HI0.out)); (case side2 => repeat (first | (with_reducible first | exact HB.out | apply below_alloc | apply pw_below_drewN | apply below_drew1 | refine below_set ?_ (IsS112.ge HI0.out)) | exact HB.out)); rintro e w6 ⟨rfl, hi, hb, hk⟩; refine ⟨_, rfl, ?_⟩; have n0_ := Aside0.mk (Kd.R_mono (Kd.R_keep (IsS112.apart (show IsS112 w0 _ g s0_0 s0_1 s0_2 from by repeat (first | (with_reducible first | exact HI0.out | apply IsS112.alloc | apply IsS112.drewN | apply IsS112.drew | apply IsS112.set_1 | apply IsS112.set_2) | exact HI0.out)) (by (with_reducible repeat (first | apply Kd.R_alloc | apply Kd.R_drewN | apply Kd.R_drew)); exact HO513.out) (by decide)) hk (fun _ h => h.2)) (fun _ h => h.1)); have n1_ := Aside0.mk (KeepBut.trans (by repeat (first | (with_reducible first | exact HK.out | apply KeepBut.set_ | apply keep_drewN | apply keep_drew | apply keep_alloc) | exact HK.out)) hk (.inl rfl)); have n2_ := Aside0.mk (hb); have n3_ := Aside0.mk (hi); clear HO513; clear HK; clear HB; clear HI0; have HO513 := n0_; have HK := n1_; have HB := n2_; have HI0 := n3_; clear n0_ n1_ n2_ n3_; (try clear hb); (try clear hb2); (try clear hk); (try clear hi)))
  go_loopg [5, 6] k (fun kq v5 v6 w' => ∃ (x5_1 : List (S56)) (x6_1 : Int) (x1001_1 : Int) (x1002_1 : Int), v6 = .int .i64 x6_1 ∧ Aside0 (spec_l1Draw.l0 kq x5_1 x6_1 s0_0 x1001_1 x1002_1 = some (r1, r2, r3)) ∧ Aside0 (kq ≤ k) ∧ Aside0 (Kd.R k56 56 w' w.heap.size (fun _ => True) v5 x5_1) ∧ Aside0 (IsS112 w0 w' g s0_0 x1001_1 x1002_1) ∧ Aside0 (KeepBut w w' g none) ∧ Aside0 (Below w0.heap.size w0 w'))
  case atStart => exact ⟨(y511), (t514), (t515), (t516), (by first | rfl | (simp; done) | (simp [*]; done)), H', ⟨Nat.le_refl _⟩, ⟨by (with_reducible repeat (first | apply Kd.R_alloc | apply Kd.R_drewN | apply Kd.R_drew)); exact HO513.out⟩, ⟨by repeat (first | (with_reducible first | exact HI0.out | apply IsS112.alloc | apply IsS112.drewN | apply IsS112.drew | apply IsS112.set_1 | apply IsS112.set_2) | exact HI0.out)⟩, ⟨by repeat (first | (with_reducible first | exact HK.out | apply KeepBut.set_ | apply keep_drewN | apply keep_drew | apply keep_alloc) | exact HK.out)⟩, ⟨by repeat (first | (with_reducible first | exact HB.out | apply below_alloc | apply pw_below_drewN | apply below_drew1 | refine below_set ?_ (IsS112.ge HI0.out)) | exact HB.out)⟩⟩
  case round =>
    clear H'
    try clear p2
    obtain ⟨x5_1, x6_1, x1001_1, x1002_1, rfl, HA, HK1, HO_5, HI0, HK, HB⟩ := hrel
    cases gk with
    | zero => exact absurd HA.out (by simp [spec_l1Draw.l0])
    | succ k1 =>
      have H := HA.out
      clear HA
      simp only [spec_l1Draw.l0] at H
      by_cases c7 : x6_1 > 0
      · rw [if_pos c7] at H
        have c7b0 : decide (0 < x6_1) = true := decide_eq_true c7
        clear c7
        replace H := Option.bind_eq_some_iff.mp H
        obtain ⟨⟨t517, t518, t519⟩, A80, H⟩ := H
        replace H : ((spec_l1Name.f s0_0 t518 t519).bind fun bt520 => ((spec_LabelSet.f k1 x5_1 t517 bt520.1).bind fun bt523 => (spec_l1Draw.l0 k1 bt523.1 (wrap64 (x6_1 - 1)) s0_0 bt520.2.1 bt520.2.2))) = some (r1, r2, r3) := H
        have A8 := Aside0.mk A80
        clear A80
        replace H := Option.bind_eq_some_iff.mp H
        obtain ⟨⟨t520, t521, t522⟩, A90, H⟩ := H
        replace H : ((spec_LabelSet.f k1 x5_1 t517 t520).bind fun bt523 => (spec_l1Draw.l0 k1 bt523.1 (wrap64 (x6_1 - 1)) s0_0 t521 t522)) = some (r1, r2, r3) := H
        have A9 := Aside0.mk A90
        clear A90
        replace H := Option.bind_eq_some_iff.mp H
        obtain ⟨⟨t523, t524⟩, A100, H⟩ := H
        replace H : (spec_l1Draw.l0 k1 t523 (wrap64 (x6_1 - 1)) s0_0 t521 t522) = some (r1, r2, r3) := H
        have A10 := Aside0.mk A100
        clear A100
        have H' := Aside0.mk H
        clear H
        go_wp2_with (first | ((with_reducible refine gate_callee (f := 106) rfl ?_); refine goesL_ (some 18) rfl rfl Try.func106 (by kernel_rfl) rfl #[.pointer (some ⟨g, 0, none⟩)] rfl (by (try simp only [List.map_toArray, List.map_cons, List.map_nil]); first | done | rfl | (simp only [List.length_drop, List.length_take]; rfl)) ?_; (with_reducible refine (spec_l1Name.calls g s0_0 x1001_1 x1002_1 t517 t518 t519 w0 _ ?side1 ?side2 A8.out).mono ?_); (case side1 => repeat (first | (with_reducible first | exact HI0.out | apply IsS112.alloc | apply IsS112.drewN | apply IsS112.drew | apply IsS112.set_1 | apply IsS112.set_2) | exact HI0.out)); (case side2 => repeat (first | (with_reducible first | exact HB.out | apply below_alloc | apply pw_below_drewN | apply below_drew1 | refine below_set ?_ (IsS112.ge HI0.out)) | exact HB.out)); rintro e w11 ⟨rfl, hi, hb, hk⟩; refine ⟨_, rfl, ?_⟩; have n0_ := Aside0.mk (Kd.R_mono (Kd.R_keep (IsS112.apart (show IsS112 w0 _ g s0_0 x1001_1 x1002_1 from by repeat (first | (with_reducible first | exact HI0.out | apply IsS112.alloc | apply IsS112.drewN | apply IsS112.drew | apply IsS112.set_1 | apply IsS112.set_2) | exact HI0.out)) (by (with_reducible repeat (first | apply Kd.R_alloc | apply Kd.R_drewN | apply Kd.R_drew)); exact HO_5.out) (by decide)) hk (fun _ h => h.2)) (fun _ h => h.1)); have n1_ := Aside0.mk (KeepBut.trans (by repeat (first | (with_reducible first | exact HK.out | apply KeepBut.set_ | apply keep_drewN | apply keep_drew | apply keep_alloc) | exact HK.out)) hk (.inl rfl)); have n2_ := Aside0.mk (hb); have n3_ := Aside0.mk (hi); clear HO_5; clear HK; clear HB; clear HI0; have HO_5 := n0_; have HK := n1_; have HB := n2_; have HI0 := n3_; clear n0_ n1_ n2_ n3_; (try clear hb); (try clear hb2); (try clear hk); (try clear hi)) | ((with_reducible refine gate_callee (f := 106) rfl ?_); refine goesL_ (some 20) rfl rfl Try.func106 (by kernel_rfl) rfl #[.pointer (some ⟨g, 0, none⟩)] rfl (by (try simp only [List.map_toArray, List.map_cons, List.map_nil]); first | done | rfl | (simp only [List.length_drop, List.length_take]; rfl)) ?_; (with_reducible refine (spec_l1Name.calls g s0_0 t518 t519 t520 t521 t522 w0 _ ?side1 ?side2 A9.out).mono ?_); (case side1 => repeat (first | (with_reducible first | exact HI0.out | apply IsS112.alloc | apply IsS112.drewN | apply IsS112.drew | apply IsS112.set_1 | apply IsS112.set_2) | exact HI0.out)); (case side2 => repeat (first | (with_reducible first | exact HB.out | apply below_alloc | apply pw_below_drewN | apply below_drew1 | refine below_set ?_ (IsS112.ge HI0.out)) | exact HB.out)); rintro e w12 ⟨rfl, hi, hb, hk⟩; refine ⟨_, rfl, ?_⟩; have n0_ := Aside0.mk (Kd.R_mono (Kd.R_keep (IsS112.apart (show IsS112 w0 _ g s0_0 t518 t519 from by repeat (first | (with_reducible first | exact HI0.out | apply IsS112.alloc | apply IsS112.drewN | apply IsS112.drew | apply IsS112.set_1 | apply IsS112.set_2) | exact HI0.out)) (by (with_reducible repeat (first | apply Kd.R_alloc | apply Kd.R_drewN | apply Kd.R_drew)); exact HO_5.out) (by decide)) hk (fun _ h => h.2)) (fun _ h => h.1)); have n1_ := Aside0.mk (KeepBut.trans (by repeat (first | (with_reducible first | exact HK.out | apply KeepBut.set_ | apply keep_drewN | apply keep_drew | apply keep_alloc) | exact HK.out)) hk (.inl rfl)); have n2_ := Aside0.mk (hb); have n3_ := Aside0.mk (hi); clear HO_5; clear HK; clear HB; clear HI0; have HO_5 := n0_; have HK := n1_; have HB := n2_; have HI0 := n3_; clear n0_ n1_ n2_ n3_; (try clear hb); (try clear hb2); (try clear hk); (try clear hi); obtain ⟨Ao13, co13, eo13⟩ := Kd.R_slice HO_5.out; subst eo13) | ((with_reducible refine gate_callee (f := 20) rfl ?_); refine goesL_ (some 21) rfl rfl Try.func20 (by kernel_rfl) rfl #[.slice Ao13 x5_1.length co13, .string t517, .string t520] rfl (by (try simp only [List.map_toArray, List.map_cons, List.map_nil]); first | done | rfl | (simp only [List.length_drop, List.length_take]; rfl)) ?_; (with_reducible refine (spec_LabelSet.calls k1 _ _ x5_1 t517 t520 t523 t524 _ ?side1 ?side2 A10.out).mono ?_); (case side1 => repeat (first | exact (Kd.R_reads' HO_5.out).2.2 | (with_reducible refine Kd.C_alloc ?_ _) | (with_reducible refine Kd.C_drewN ?_ _) | (with_reducible refine Kd.C_drew ?_))); (case side2 => exact (Kd.R_reads' HO_5.out).2.1); rintro e w14 ⟨v525, rfl, ho0, hb⟩; refine ⟨_, rfl, ?_⟩; have n0_ := Aside0.mk (Kd.R_elder' (by (with_reducible repeat (first | apply Kd.R_alloc | apply Kd.R_drewN | apply Kd.R_drew)); exact HO_5.out) (Kd.R_base ho0) hb); have n1_ := Aside0.mk (Kd.R_lower (Kd.R_new' ho0 (Kd.R_lt (by (with_reducible repeat (first | apply Kd.R_alloc | apply Kd.R_drewN | apply Kd.R_drew)); exact HO_5.out))) (keep_size (w := w) (g := g) (row := none) (by repeat (first | (with_reducible first | exact HK.out | apply KeepBut.set_ | apply keep_drewN | apply keep_drew | apply keep_alloc) | exact HK.out)))); have n2_ := Aside0.mk (IsS112.below (by repeat (first | (with_reducible first | exact HI0.out | apply IsS112.alloc | apply IsS112.drewN | apply IsS112.drew | apply IsS112.set_1 | apply IsS112.set_2) | exact HI0.out)) hb); have n3_ := Aside0.mk (KeepBut.trans (by repeat (first | (with_reducible first | exact HK.out | apply KeepBut.set_ | apply keep_drewN | apply keep_drew | apply keep_alloc) | exact HK.out)) (KeepBut.of_below hb g none) (.inl rfl)); have n4_ := Aside0.mk (below_step (by repeat (first | (with_reducible first | exact HB.out | apply below_alloc | apply pw_below_drewN | apply below_drew1 | refine below_set ?_ (IsS112.ge HI0.out)) | exact HB.out)) hb); clear HO_5; clear HI0; clear HK; clear HB; have HO_5 := n0_; have HO526 := n1_; have HI0 := n2_; have HK := n3_; have HB := n4_; clear n0_ n1_ n2_ n3_ n4_; (try clear hb); (try clear hb2); (try clear hk); (try clear hi); (try clear ho0)))
        go_roundg k1
        case measure => have := HK1.out; omega
        case rel => exact ⟨(t523), (wrap64 (x6_1 - 1)), (t521), (t522), (by first | rfl | (simp; done) | (simp [*]; done)), H', ⟨by have := HK1.out; omega⟩, ⟨by (with_reducible repeat (first | apply Kd.R_alloc | apply Kd.R_drewN | apply Kd.R_drew)); exact Kd.R_mono HO526.out (fun _ hk => trivial)⟩, ⟨by repeat (first | (with_reducible first | exact HI0.out | apply IsS112.alloc | apply IsS112.drewN | apply IsS112.drew | apply IsS112.set_1 | apply IsS112.set_2) | exact HI0.out)⟩, ⟨by repeat (first | (with_reducible first | exact HK.out | apply KeepBut.set_ | apply keep_drewN | apply keep_drew | apply keep_alloc) | exact HK.out)⟩, ⟨by repeat (first | (with_reducible first | exact HB.out | apply below_alloc | apply pw_below_drewN | apply below_drew1 | refine below_set ?_ (IsS112.ge HI0.out)) | exact HB.out)⟩⟩
      · rw [if_neg c7] at H
        have c7b0 : decide (0 < x6_1) = false := decide_eq_false c7
        clear c7
        simp only [Option.some.injEq, Prod.mk.injEq] at H
        obtain ⟨rfl, rfl, rfl⟩ := H
        go_wp2
        go_ret
        exact ⟨_, by first | rfl | (simp [errW_none, errW_some] <;> rfl) | (simp [*, errW_none, errW_some] <;> rfl), by (with_reducible repeat (first | apply Kd.R_alloc | apply Kd.R_drewN | apply Kd.R_drew)); exact HO_5.out, by repeat (first | (with_reducible first | exact HI0.out | apply IsS112.alloc | apply IsS112.drewN | apply IsS112.drew | apply IsS112.set_1 | apply IsS112.set_2) | exact HI0.out), by repeat (first | (with_reducible first | exact HB.out | apply below_alloc | apply pw_below_drewN | apply below_drew1 | refine below_set ?_ (IsS112.ge HI0.out)) | exact HB.out), by repeat (first | (with_reducible first | exact HK.out | apply KeepBut.set_ | apply keep_drewN | apply keep_drew | apply keep_alloc) | exact HK.out)⟩

end Go.Proofs.Ytpjpnppoejnafaa.G
