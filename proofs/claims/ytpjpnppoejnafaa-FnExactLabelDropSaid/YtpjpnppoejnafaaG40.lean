-- Laid by wip/g/gprint.py out of the translation, by the kit's print program. Lean checks it.
import Derived.Test.YtpjpnppoejnafaaG0
namespace Go.Proofs.Ytpjpnppoejnafaa.G
open Go.RowKit Go.Proofs.YtpjpnppoejnafaaW.PrintWords Go.Proofs.YtpjpnppoejnafaaW.PrintLast Go.Proofs.YtpjpnppoejnafaaW.PrintMore
attribute [local go_sem] max2_int min2_int max_two min_two max_three min_three max_four min_four   -- for this text's walks alone
set_option linter.unusedVariables false
set_option linter.unusedSimpArgs false

/-! ### impl_LabelDrop_1: function 40 -/
theorem impl_LabelDrop_1.calls (x : S56) (key : ByteArray) (g : Nat) (W : World) (hb : W.heap[g]? = some (.cells #[.string key] 9 (0, 0))) :
    Calls Try.prog 40 #[.agg #[.string x.f0, .string x.f1], .pointer (some ⟨g, 0, none⟩)] W fun e w' => e = .returned (.bool (x.f0.toList == key.toList)) ∧ Below W.heap.size W w' := by
  have hlt := blk_lt hb
  have hc := blk_cell hb 0
  simp only [List.getElem?_toArray, List.getElem?_cons_zero] at hc
  clear hb
  go_enter Try.func40, Try.ntmps40
  go_wp2
  go_ret
  exact ⟨rfl, by repeat (first | exact Below.refl _ _ | apply below_alloc | apply pw_below_drewN | apply below_drew1)⟩

end Go.Proofs.Ytpjpnppoejnafaa.G
