/-
  The program's data as Lean types, each with its tree.
-/
import Derived.Test.YtpjpnppoejnafaaOpen
namespace Go.Proofs.Ytpjpnppoejnafaa
open Go.RowKit

structure Label where
  key : ByteArray
  value : ByteArray
def Label.d (x : Label) : D := .agg [.str x.key, .str x.value]
def labD (xs : List Label) : D := .sl 2 (xs.map Label.d)
def strD (xs : List ByteArray) : D := .sl 1 (xs.map D.str)
def intD (xs : List Int) : D := .sl 1 (xs.map D.int)

theorem rd_str {o : Bool} {w : World} {s : ByteArray} {cs : List Value} {F : List Nat} : rd o w (.str s) cs F ↔ cs = [.string s] ∧ F = [] ∧ s.size ≤ 9223372036854775807 := by rw [rd]
theorem rd_int {o : Bool} {w : World} {n : Int} {cs : List Value} {F : List Nat} : rd o w (.int n) cs F ↔ cs = [.int .i64 n] ∧ F = [] ∧ -9223372036854775808 ≤ n ∧ n ≤ 9223372036854775807 := by rw [rd]
theorem rd_bool {o : Bool} {w : World} {n : Bool} {cs : List Value} {F : List Nat} : rd o w (.bool n) cs F ↔ cs = [.bool n] ∧ F = [] := by rw [rd]

theorem rd_label {o : Bool} {w : World} {x : Label} {cs : List Value} {F : List Nat} :
    rd o w x.d cs F ↔ cs = [.string x.key, .string x.value] ∧ F = [] ∧ x.key.size ≤ 9223372036854775807 ∧ x.value.size ≤ 9223372036854775807 := by
  unfold Label.d
  simp only [rd, rdL]
  constructor
  · rintro ⟨c1, c2, F1, F2, rfl, rfl, ⟨rfl, rfl, h1⟩, c3, c4, F3, F4, rfl, rfl, ⟨rfl, rfl, h2⟩, rfl, rfl⟩
    exact ⟨rfl, rfl, h1, h2⟩
  · rintro ⟨rfl, rfl, h1, h2⟩
    exact ⟨_, _, [], [], rfl, rfl, ⟨rfl, rfl, h1⟩, _, [], [], [], rfl, rfl, ⟨rfl, rfl, h2⟩, rfl, rfl⟩

/-- A list of labels that is read: its value, and each element's two cells. -/
theorem rd_labs {o : Bool} {w : World} {xs : List Label} {v : Value} {F : List Nat} (h : rd o w (labD xs) [v] F) :
    ∃ A c, v = .slice A xs.length c ∧ xs.length ≤ c ∧ c ≤ 9223372036854775807 ∧
      ∀ i (hi : i < xs.length), ∃ b off, A = some ⟨b, off, none⟩ ∧ b < w.heap.size ∧ w.cell? ⟨b, off + i * 2, none⟩ = some (.string xs[i].key) ∧ w.cell? ⟨b, off + i * 2 + 1, none⟩ = some (.string xs[i].value) ∧
        xs[i].key.size ≤ 9223372036854775807 ∧ xs[i].value.size ≤ 9223372036854775807 := by
  obtain ⟨A, c, h1, h2, h3, h4⟩ := rd_sl h (by intro d hd; obtain ⟨x, _, rfl⟩ := List.mem_map.1 hd; simp [Label.d, width, widthL])
  rw [List.length_map] at h1 h2
  refine ⟨A, c, h1, h2, h3, fun i hi => ?_⟩
  obtain ⟨b, off, cs, G, hA, hb, _, _, hd, _, hc, _⟩ := h4 i (by simpa using hi)
  rw [List.getElem_map, rd_label] at hd
  obtain ⟨rfl, _, k1, k2⟩ := hd
  exact ⟨b, off, hA, hb, hc 0 _ rfl, hc 1 _ rfl, k1, k2⟩

theorem open_labels {H : Type} {enc : TypeId × Value → H} {P : Program} {w : World} {base : Nat} {spare : Nat → Bool} {held : Bool} {t e s : TypeId} {fs : Array Field} {v : Value} {d : DataW H} {p : List MemPlace} {r : Reach} {b0 : Nat}
    (ht : P.underlying t = some (.slice e)) (he : P.underlying e = some (.struct fs)) (hs : P.underlying s = some .string) (hsz : P.cellsOf e = 2)
    (hfs : (fs.toList.map fun f => (f.type, f.offset)) = [(s, 0), (s, 1)]) (h1 : P.cellsOf s = 1)
    (hv : Value.okWide P w r b0 t v) (h : DataW.Trod enc P w base spare held t v d p) :
    ∃ xs : List Label, ∃ A n c F, v = .slice A n c ∧ rd false w (labD xs) [v] F := by
  obtain ⟨A, n, c, rfl⟩ := Go.WideShapes.okWide_slice ht hv
  obtain ⟨fuel, h⟩ := h
  have hf2 : fs.size = 2 := by rw [← Array.length_toList, ← List.length_map (f := fun f : Field => (f.type, f.offset)), hfs]; rfl
  have hty : (fs.toList.map fun f => P.cellsOf f.type) = [1, 1] := by
    have : (fs.toList.map fun f => P.cellsOf f.type) = (fs.toList.map fun f => (f.type, f.offset)).map fun x => P.cellsOf x.1 := by simp [Function.comp_def]
    rw [this, hfs]
    simp [h1]
  have hst : ∀ (i : Nat) (f : Field), fs[i]? = some f → f.type = s := by
    intro i f hf
    have : (fs.toList.map fun f => (f.type, f.offset))[i]? = some (f.type, f.offset) := by simp [hf]
    rw [hfs] at this
    match i, this with
    | 0, this => simp at this; exact this.1.symm
    | 1, this => simp at this; exact this.1.symm
  obtain ⟨D0, F, ⟨ds, rfl, hds⟩, hd⟩ := opens_slice (enc := enc) (w := w) (base := base) (spare := spare) (held := held) (n := fuel) (S := fun d => ∃ ds, d = D.agg ds ∧ Shapes [fun d => ∃ i, d = .str i, fun d => ∃ i, d = .str i] ds)
    ht hsz (by omega) (fun m _ => opens_struct he _ hf2 (by rw [hfs]; exact ⟨rfl, by rw [h1], trivial⟩) (by rw [hsz, hty]; rfl) (fun m' _ i f S hf hS => by
      rw [hst i f hf]
      match i, hS with
      | 0, hS => simp at hS; subst hS; exact opens_str hs
      | 1, hS => simp at hS; subst hS; exact opens_str hs)) _ _ h
  obtain ⟨xs, rfl⟩ := map_of_shape (f := Label.d) (ds := ds) (fun d hd => by
    obtain ⟨l, rfl, hl⟩ := hds d hd
    match l, hl with
    | [a, b], ⟨⟨k, hk⟩, ⟨x, hx⟩, _⟩ => exact ⟨⟨k, x⟩, by rw [hk, hx]; rfl⟩)
  exact ⟨xs, A, n, c, F, rfl, hd⟩

end Go.Proofs.Ytpjpnppoejnafaa
