/-
  The arguments of the laws, opened: at this dump's type numbers.
-/
import Derived.Test.YtpjpnppoejnafaaProg
import Derived.Test.YtpjpnppoejnafaaTypes
namespace Go.Proofs.Ytpjpnppoejnafaa
open Go.RowKit
theorem int_wf {n : Int} (h : (Lit.int .i64 n).wf = true) : -9223372036854775808 ≤ n ∧ n ≤ 9223372036854775807 := by
  have m1 : IntKind.i64.min = -9223372036854775808 := by decide
  have m2 : IntKind.i64.max = 9223372036854775807 := by decide
  simpa only [Lit.wf, Bool.and_eq_true, decide_eq_true_eq, m1, m2] using h
section
variable {H : Type} {enc : TypeId × Value → H} {w : World} {base : Nat} {spare : Nat → Bool} {held : Bool} {v : Value} {d : DataW H} {p : List MemPlace} {r : Reach} {b0 : Nat}
set_option maxRecDepth 20000 in
theorem open_labels_arg (hv : Value.okWide Try.prog w r b0 22 v) (h : DataW.Trod enc Try.prog w base spare held 22 v d p) :
    ∃ xs : List Label, ∃ A n c F, v = .slice A n c ∧ rd false w (labD xs) [v] F :=
  open_labels Try.underlying22 Try.underlying55 Try.underlying9 (by kernel_rfl) rfl (by kernel_rfl) hv h
set_option maxRecDepth 20000 in
theorem open_strs_arg (hv : Value.okWide Try.prog w r b0 50 v) (h : DataW.Trod enc Try.prog w base spare held 50 v d p) :
    ∃ xs : List ByteArray, ∃ A n c F, v = .slice A n c ∧ rd false w (strD xs) [v] F := by
  obtain ⟨A, n, c, rfl⟩ := Go.WideShapes.okWide_slice Try.underlying50 hv
  obtain ⟨fuel, h⟩ := h
  obtain ⟨D0, F, ⟨ds, rfl, hds⟩, hd⟩ := opens_slice (S := fun d => ∃ i, d = D.str i) (sz := 1) Try.underlying50 (by kernel_rfl) (by omega) (fun m _ => opens_str Try.underlying9) _ _ h
  obtain ⟨xs, rfl⟩ := map_of_shape (f := D.str) hds
  exact ⟨xs, A, n, c, F, rfl, hd⟩
end
end Go.Proofs.Ytpjpnppoejnafaa
