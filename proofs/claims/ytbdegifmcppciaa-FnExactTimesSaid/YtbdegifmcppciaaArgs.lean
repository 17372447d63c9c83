/-
  The arguments of the laws, opened: at this dump's type numbers.
-/
import Derived.Test.YtbdegifmcppciaaProg
import Derived.Test.YtbdegifmcppciaaTypes
namespace Go.Proofs.Ytbdegifmcppciaa
open Go.RowKit
theorem int_wf {n : Int} (h : (Lit.int .i64 n).wf = true) : -9223372036854775808 ≤ n ∧ n ≤ 9223372036854775807 := by
  have m1 : IntKind.i64.min = -9223372036854775808 := by decide
  have m2 : IntKind.i64.max = 9223372036854775807 := by decide
  simpa only [Lit.wf, Bool.and_eq_true, decide_eq_true_eq, m1, m2] using h
section
variable {H : Type} {enc : TypeId × Value → H} {w : World} {base : Nat} {spare : Nat → Bool} {held : Bool} {v : Value} {d : DataW H} {p : List MemPlace} {r : Reach} {b0 : Nat}
theorem open_labels_arg (hv : Value.okWide Try.prog w r b0 45 v) (h : DataW.Trod enc Try.prog w base spare held 45 v d p) :
    ∃ xs : List Label, ∃ A n c F, v = .slice A n c ∧ rd false w (labD xs) [v] F :=
  open_labels Try.underlying45 Try.underlying66 Try.underlying9 (by kernel_rfl) rfl (by kernel_rfl) hv h
theorem open_ints_arg (hv : Value.okWide Try.prog w r b0 40 v) (h : DataW.Trod enc Try.prog w base spare held 40 v d p) :
    ∃ xs : List Int, ∃ A n c F, v = .slice A n c ∧ rd false w (intD xs) [v] F := by
  obtain ⟨A, n, c, rfl⟩ := Go.WideShapes.okWide_slice Try.underlying40 hv
  obtain ⟨fuel, h⟩ := h
  obtain ⟨D0, F, ⟨ds, rfl, hds⟩, hd⟩ := opens_slice (S := fun d => ∃ i, d = D.int i) (sz := 1) Try.underlying40 (by kernel_rfl) (by omega) (fun m _ => opens_int Try.underlying3) _ _ h
  obtain ⟨xs, rfl⟩ := map_of_shape (f := D.int) hds
  exact ⟨xs, A, n, c, F, rfl, hd⟩
theorem open_strs_arg (hv : Value.okWide Try.prog w r b0 62 v) (h : DataW.Trod enc Try.prog w base spare held 62 v d p) :
    ∃ xs : List ByteArray, ∃ A n c F, v = .slice A n c ∧ rd false w (strD xs) [v] F := by
  obtain ⟨A, n, c, rfl⟩ := Go.WideShapes.okWide_slice Try.underlying62 hv
  obtain ⟨fuel, h⟩ := h
  obtain ⟨D0, F, ⟨ds, rfl, hds⟩, hd⟩ := opens_slice (S := fun d => ∃ i, d = D.str i) (sz := 1) Try.underlying62 (by kernel_rfl) (by omega) (fun m _ => opens_str Try.underlying9) _ _ h
  obtain ⟨xs, rfl⟩ := map_of_shape (f := D.str) hds
  exact ⟨xs, A, n, c, F, rfl, hd⟩
end
end Go.Proofs.Ytbdegifmcppciaa
