/-
  An argument of type Amounts, opened.
-/
import Derived.Test.YtbdegifmcppciaaArgs
import Derived.Test.YtbdegifmcppciaaAmt
import Derived.OpenShut
namespace Go.Proofs.Ytbdegifmcppciaa
open Go.RowKit
set_option linter.unusedVariables false
theorem open_amounts_arg {H : Type} {enc : TypeId × Value → H} {w : World} {base : Nat} {spare : Nat → Bool} {held : Bool} {v : Value} {d : DataW H} {p : List MemPlace} {r : Reach} {b0 : Nat}
    (hv : Value.okWide Try.prog w r b0 26 v) (h : DataW.Trod enc Try.prog w base spare held 26 v d p) : ∃ x : Amt, v = x.v := by
  obtain ⟨cs, rfl, hsz⟩ := Go.WideShapes.okWide_struct Try.underlying26 hv
  have hC : Try.prog.cellsOf 26 = 3 := by kernel_rfl
  have hA : Try.prog.cellsOf 24 = 3 := by kernel_rfl
  have hI : Try.prog.cellsOf 3 = 1 := by kernel_rfl
  obtain ⟨fuel, h⟩ := h
  obtain ⟨xs, m, _, _, hl, hxl, hg⟩ := DataW.trod_struct Try.underlying26 h
  obtain ⟨x0, h0⟩ : ∃ x0, DataW.trod enc Try.prog w base spare held m 24 (((Value.agg cs).cells.toList.drop 0).take (Try.prog.cellsOf 24)) = some x0 :=
    ⟨xs[0]'(by rw [hxl]; decide), (hg 0 _ rfl).trans (List.getElem?_eq_getElem (by rw [hxl]; decide))⟩
  rw [hA] at h0
  have e : ((Value.agg cs).cells.toList.drop 0).take 3 = cs.toList := by
    show (cs.toList.drop 0).take 3 = cs.toList
    rw [List.drop_zero, List.take_of_length_le]
    rw [Array.length_toList]; omega
  rw [e] at h0
  obtain ⟨ys, m', _, _, hl', hyl, hy⟩ := DataW.trod_array Try.underlying24 h0
  obtain ⟨l⟩ := cs
  have hlen : l.length = 3 := by simpa [hC] using hsz
  have gi : ∀ i, i < 3 → ∃ n, (l.drop i).take 1 = [Value.int .i64 n] := by
    intro i hi
    have := hy i hi
    rw [hI, Nat.mul_one, List.getElem?_eq_getElem (by omega)] at this
    obtain ⟨n, hn, _⟩ := DataW.trod_int Try.underlying3 this
    exact ⟨n, hn⟩
  match l, hlen with
  | [a, b, c], _ =>
    obtain ⟨x, hx⟩ := gi 0 (by omega)
    obtain ⟨y, hy⟩ := gi 1 (by omega)
    obtain ⟨z, hz⟩ := gi 2 (by omega)
    simp at hx hy hz
    exact ⟨⟨x, y, z⟩, by rw [hx, hy, hz]; rfl⟩
end Go.Proofs.Ytbdegifmcppciaa
