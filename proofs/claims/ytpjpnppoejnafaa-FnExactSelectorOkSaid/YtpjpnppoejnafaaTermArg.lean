/-
  An argument of type []Term, opened.
-/
import Derived.Test.YtpjpnppoejnafaaArgs
import Derived.Test.YtpjpnppoejnafaaTermFam
namespace Go.Proofs.Ytpjpnppoejnafaa
open Go.RowKit
set_option linter.unusedVariables false
set_option maxRecDepth 20000 in
theorem open_terms_arg {H : Type} {enc : TypeId × Value → H} {w : World} {base : Nat} {spare : Nat → Bool} {held : Bool} {v : Value} {d : DataW H} {p : List MemPlace} {r : Reach} {b0 : Nat}
    (hv : Value.okWide Try.prog w r b0 35 v) (h : DataW.Trod enc Try.prog w base spare held 35 v d p) :
    ∃ xs : List Term, ∃ A n c F, v = .slice A n c ∧ rd false w (termD xs) [v] F := by
  obtain ⟨A, n, c, rfl⟩ := Go.WideShapes.okWide_slice Try.underlying35 hv
  obtain ⟨fuel, h⟩ := h
  have hI : Try.prog.cellsOf 3 = 1 := by kernel_rfl
  have hS : Try.prog.cellsOf 9 = 1 := by kernel_rfl
  have hL : Try.prog.cellsOf 50 = 1 := by kernel_rfl
  have hT : Try.prog.cellsOf 73 = 3 := by kernel_rfl
  obtain ⟨D0, F, ⟨ds, rfl, hds⟩, hd⟩ := opens_slice (enc := enc) (w := w) (base := base) (spare := spare) (held := held) (n := fuel)
    (S := fun d => ∃ ds, d = D.agg ds ∧ Shapes [fun d => ∃ i, d = .int i, fun d => ∃ i, d = .str i, fun d => ∃ ds, d = .sl 1 ds ∧ ∀ x, x ∈ ds → ∃ i, x = D.str i] ds)
    Try.underlying35 hT (by omega) (fun m _ => opens_struct Try.underlying73 _ rfl ⟨rfl, by rw [hI], by rw [hI, hS], trivial⟩ (by rw [hT]; simp [hI, hS, hL]) (fun m' _ i f S hf hS' => by
      match i, hf, hS' with
      | 0, hf, hS' => simp at hf hS'; subst hf; subst hS'; exact opens_int Try.underlying3
      | 1, hf, hS' => simp at hf hS'; subst hf; subst hS'; exact opens_str Try.underlying9
      | 2, hf, hS' => simp at hf hS'; subst hf; subst hS'; exact opens_slice (S := fun d => ∃ i, d = D.str i) Try.underlying50 hS (by omega) (fun m'' _ => opens_str Try.underlying9))) _ _ h
  obtain ⟨xs, rfl⟩ := map_of_shape (f := Term.d) (ds := ds) (fun d hd => by
    obtain ⟨l, rfl, hl⟩ := hds d hd
    match l, hl with
    | [a, b, c], ⟨⟨k, hk⟩, ⟨x, hx⟩, ⟨ys, hys, hy⟩, _⟩ =>
      obtain ⟨zs, rfl⟩ := map_of_shape (f := D.str) hy
      exact ⟨⟨k, x, zs⟩, by rw [hk, hx, hys]; rfl⟩)
  exact ⟨xs, A, n, c, F, rfl, hd⟩
end Go.Proofs.Ytpjpnppoejnafaa
