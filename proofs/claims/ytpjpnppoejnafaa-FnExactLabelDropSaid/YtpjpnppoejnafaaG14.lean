-- Laid by wip/g/gprint.py out of the translation, by the kit's print program. Lean checks it.
import Derived.Test.YtpjpnppoejnafaaG0
import Derived.Test.YtpjpnppoejnafaaG38
import Derived.Test.YtpjpnppoejnafaaG39
import Derived.Test.YtpjpnppoejnafaaG40
namespace Go.Proofs.Ytpjpnppoejnafaa.G
open Go.RowKit Go.Proofs.YtpjpnppoejnafaaW.PrintWords Go.Proofs.YtpjpnppoejnafaaW.PrintLast Go.Proofs.YtpjpnppoejnafaaW.PrintMore
attribute [local go_sem] max2_int min2_int max_two min_two max_three min_three max_four min_four   -- for this text's walks alone
set_option linter.unusedVariables false
set_option linter.unusedSimpArgs false

/-! ### impl_LabelDrop: function 14 -/
def impl_LabelDrop.f (l0 : List S56) (a1 : ByteArray) : Option (List S56) := if l0.length < 4398046511104 then delO (fun x => some (x.f0.toList == a1.toList)) l0 else none
theorem impl_LabelDrop.calls (A0 : Option Addr) (c0 : Nat) (l0 : List (S56)) (a1 : ByteArray) (r : List (S56)) (w : World) (hr0 : Kd.C k56 w A0 l0.length l0) (hc0 : l0.length ≤ c0) (h : impl_LabelDrop.f l0 a1 = some r) :
    Calls Try.prog 14 #[.slice A0 l0.length c0, .string a1] w fun e w' => ∃ v0_ : Value, e = .returned (v0_) ∧ Kd.R k56 56 w' w.heap.size (fun _ => True) v0_ r ∧ Below w.heap.size w w' := by
  unfold impl_LabelDrop.f at h
  by_cases hl : l0.length < 4398046511104
  · rw [if_pos hl] at h
    have HB := Lib.hid (below_alloc (Below.refl w.heap.size w) (.cells #[.string a1] 9))
    have HR := Lib.hid (Kd.C_below hr0 HB.out)
    have HH := Lib.hid h
    have HL : Hid (slices_Clone_simpl_Label_impl_Label.f l0 = some l0) := by unfold Hid slices_Clone_simpl_Label_impl_Label.f; rw [if_pos hl]
    have HK : Hid ((w.alloc (.cells #[.string a1] 9)).heap[w.heap.size]? = some (.cells #[.string a1] 9 (0, 0))) := by exact heap_alloc_new _ _
    clear hr0 h hl
    go_enter Try.func14, Try.ntmps14
    go_wp2_with fail
    refine (slices_Clone_simpl_Label_impl_Label.calls A0 c0 l0 l0 _ HR.out hc0 HL.out).mono ?_
    rintro e w1 ⟨v, rfl, hv, hb1⟩
    have HV := Lib.hid hv
    have HB1 := Lib.hid hb1
    clear hv hb1
    go_wp2_with fail
    refine (slices_DeleteFunc_simpl_Label_impl_Label.calls k56 rfl _ (fun _ _ => by kernel_rfl) _ _ v l0 r (fun _ => True) _ _ HB1.out HV.out ?_ HH.out).mono ?_
    · intro x cs b W hx hp hk hkept
      obtain rfl := k56_open hk
      cases hp
      refine impl_LabelDrop_1.calls x a1 w.heap.size W ?_
      have h1 := (HB1.out.block w.heap.size (blk_lt HK.out)).trans HK.out
      refine blk_kept h1 hkept (fun e => ?_)
      have h3 := Kd.R_base HV.out w.heap.size e.symm
      have h4 : w.heap.size + 1 ≤ w.heap.size := by simpa using h3
      omega
    · rintro e w2 ⟨v2, rfl, hv2, hb2, _, _⟩
      have HV2 := Lib.hid hv2
      have HB2 := Lib.hid hb2
      clear hv2 hb2
      go_wp2
      go_ret
      exact ⟨_, rfl, Kd.R_lower HV2.out (by simp), below_then HB.out HB.out.size HB2.out⟩
  · rw [if_neg hl] at h
    cases h

end Go.Proofs.Ytpjpnppoejnafaa.G
