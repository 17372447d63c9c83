/-
  An argument that can be read as data (the form's own reading) reads as a tree 'D'.
-/
import Derived.Test.YtpjpnppoejnafaaBase
import Derived.Deep.Slices
import Derived.ChangeArms
import Derived.ChangeShapes
import Derived.DataReads
namespace Go.Proofs.Ytpjpnppoejnafaa
open Go.RowKit Go.Deep

section
variable {H : Type} {enc : TypeId × Value → H} {P : Program} {w : World} {base : Nat} {spare : Nat → Bool} {held : Bool}

/-- Cells of a type read as data of a shape. -/
def Opens (enc : TypeId × Value → H) (P : Program) (w : World) (base : Nat) (spare : Nat → Bool) (held : Bool) (n : Nat) (t : TypeId) (S : D → Prop) : Prop :=
  ∀ cs x, DataW.trod enc P w base spare held n t cs = some x → ∃ d F, S d ∧ rd false w d cs F

theorem opens_int {n : Nat} {t : TypeId} (ht : P.underlying t = some (.int .i64)) : Opens enc P w base spare held n t (fun d => ∃ i, d = .int i) := by
  intro cs x h
  obtain ⟨i, rfl, _, hw⟩ := DataW.trod_int ht h
  refine ⟨.int i, [], ⟨i, rfl⟩, ?_⟩
  rw [rd]
  have m1 : IntKind.i64.min = -9223372036854775808 := by decide
  have m2 : IntKind.i64.max = 9223372036854775807 := by decide
  simp only [Lit.wf, Bool.and_eq_true, decide_eq_true_eq, m1, m2] at hw
  exact ⟨rfl, rfl, hw⟩
theorem opens_bool {n : Nat} {t : TypeId} (ht : P.underlying t = some .bool) : Opens enc P w base spare held n t (fun d => ∃ i, d = .bool i) := by
  intro cs x h
  obtain ⟨i, rfl, _⟩ := DataW.trod_bool ht h
  refine ⟨.bool i, [], ⟨i, rfl⟩, ?_⟩
  rw [rd]
  exact ⟨rfl, rfl⟩
theorem opens_str {n : Nat} {t : TypeId} (ht : P.underlying t = some .string) : Opens enc P w base spare held n t (fun d => ∃ i, d = .str i) := by
  intro cs x h
  obtain ⟨i, rfl, _, hw⟩ := DataW.trod_string ht h
  refine ⟨.str i, [], ⟨i, rfl⟩, ?_⟩
  rw [rd]
  unfold maxLen at hw
  exact ⟨rfl, rfl, hw⟩

/-- Fields, from offset k on. -/
def Fields (P : Program) : List (TypeId × Nat) → Nat → Prop
  | [], _ => True
  | (t, o) :: r, k => o = k ∧ Fields P r (k + P.cellsOf t)
def Shapes : List (D → Prop) → List D → Prop
  | [], [] => True
  | S :: r, d :: ds => S d ∧ Shapes r ds
  | _, _ => False

theorem opens_fields {n : Nat} : ∀ (fs : List (TypeId × Nat)) (Ss : List (D → Prop)) (k : Nat) (cs : List Value), fs.length = Ss.length → Fields P fs k → cs.length = k + (fs.map fun f => P.cellsOf f.1).sum →
    (∀ (i : Nat) (f : TypeId × Nat) (S : D → Prop), fs[i]? = some f → Ss[i]? = some S → ∃ x, DataW.trod enc P w base spare held n f.1 ((cs.drop f.2).take (P.cellsOf f.1)) = some x) →
    (∀ (i : Nat) (f : TypeId × Nat) (S : D → Prop), fs[i]? = some f → Ss[i]? = some S → Opens enc P w base spare held n f.1 S) →
    ∃ ds F, Shapes Ss ds ∧ rdL false w ds (cs.drop k) F
  | [], [], k, cs, _, _, hl, _, _ => ⟨[], [], trivial, by rw [rdL]; simp at hl; simp [hl]⟩
  | [], _ :: _, _, _, hlen, _, _, _, _ => by simp at hlen
  | _ :: _, [], _, _, hlen, _, _, _, _ => by simp at hlen
  | (t, o) :: r, S :: Ss, k, cs, hlen, hf, hl, hx, ho => by
    obtain ⟨rfl, hf⟩ := hf
    obtain ⟨x, hx0⟩ := hx 0 (t, o) S rfl rfl
    obtain ⟨d, F, hS, hd⟩ := ho 0 (t, o) S rfl rfl _ _ hx0
    simp only [List.map_cons, List.sum_cons] at hl
    obtain ⟨ds, G, hSs, hds⟩ := opens_fields r Ss (o + P.cellsOf t) cs (by simpa using hlen) hf (by omega)
      (fun i f S' h1 h2 => hx (i + 1) f S' (by simpa using h1) (by simpa using h2)) (fun i f S' h1 h2 => ho (i + 1) f S' (by simpa using h1) (by simpa using h2))
    refine ⟨d :: ds, F ++ G, ⟨hS, hSs⟩, ?_⟩
    rw [rdL]
    refine ⟨_, _, _, _, ?_, rfl, hd, hds⟩
    rw [← List.drop_drop, List.take_append_drop]

theorem opens_struct {n : Nat} {t : TypeId} {fs : Array Field} (ht : P.underlying t = some (.struct fs)) (Ss : List (D → Prop)) (hlen : fs.size = Ss.length)
    (hf : Fields P (fs.toList.map fun f => (f.type, f.offset)) 0) (hc : P.cellsOf t = ((fs.toList.map fun f => P.cellsOf f.type)).sum)
    (ho : ∀ m, m + 1 = n → ∀ (i : Nat) (f : Field) (S : D → Prop), fs[i]? = some f → Ss[i]? = some S → Opens enc P w base spare held m f.type S) :
    Opens enc P w base spare held n t (fun d => ∃ ds, d = .agg ds ∧ Shapes Ss ds) := by
  intro cs x h
  obtain ⟨xs, m, hn, _, hcl, hxl, hg⟩ := DataW.trod_struct ht h
  have := ho m hn.symm
  obtain ⟨ds, F, hS, hd⟩ := opens_fields (enc := enc) (P := P) (w := w) (base := base) (spare := spare) (held := held) (n := m) (fs.toList.map fun f => (f.type, f.offset)) Ss 0 cs (by simpa using hlen) hf
    (by rw [hcl, hc]; simp [Function.comp_def]) (fun i f S h1 h2 => by
      rw [List.getElem?_map, Option.map_eq_some_iff] at h1
      obtain ⟨g, hg1, rfl⟩ := h1
      have hgi : fs[i]? = some g := by simpa using hg1
      have hlt : i < xs.length := by rw [hxl]; exact (Array.getElem?_eq_some_iff.1 hgi).1
      exact ⟨xs[i], by rw [hg i g hgi]; exact List.getElem?_eq_getElem hlt⟩) (fun i f S h1 h2 => by
      rw [List.getElem?_map, Option.map_eq_some_iff] at h1
      obtain ⟨g, hg1, rfl⟩ := h1
      exact this i g S (by simpa using hg1) h2)
  exact ⟨.agg ds, F, ⟨ds, rfl, hS⟩, by rw [rd]; simpa using hd⟩

theorem opens_slice {n : Nat} {t e : TypeId} {S : D → Prop} {sz : Nat} (ht : P.underlying t = some (.slice e)) (hsz : P.cellsOf e = sz) (hpos : 0 < sz)
    (ho : ∀ m, m < n → Opens enc P w base spare held m e S) : Opens enc P w base spare held n t (fun d => ∃ ds, d = .sl sz ds ∧ ∀ x, x ∈ ds → S x) := by
  intro cs x h
  rcases DataW.trod_slice ht h with ⟨rfl, _⟩ | ⟨a, len, cap, elems, rest, m, hn, rfl, _, hb, hl, hm, hlen, hel, _, _⟩
  · refine ⟨.sl sz [], [], ⟨[], rfl, by simp⟩, ?_⟩
    rw [rd]
    exact ⟨none, 0, rfl, by simp, by omega, .inl ⟨rfl, rfl⟩⟩
  · unfold maxLen at hm
    by_cases h0 : len = 0
    · subst h0
      refine ⟨.sl sz [], [], ⟨[], rfl, by simp⟩, ?_⟩
      rw [rd]
      exact ⟨some a, cap, rfl, by simp, hm, .inl ⟨rfl, rfl⟩⟩
    · rw [hsz] at hel
      have get : ∀ i, i < len → ∃ cs' x, w.cells? base (a.add (i * sz)) sz = some cs' ∧ DataW.trod enc P w base spare held m e cs' = some x := by
        intro i hi
        have h1 := hel i hi
        rw [List.getElem?_eq_getElem (by omega), Option.bind_eq_some_iff] at h1
        obtain ⟨cs', h1, h2⟩ := h1
        exact ⟨cs', _, h1, h2⟩
      obtain ⟨cs0, x0, hc0, _⟩ := get 0 (by omega)
      obtain ⟨_, hl0, hat0⟩ := World.cells?_some hc0
      obtain ⟨b, off, spot⟩ := a
      have hcell0 := hat0 0 (by omega)
      have hspot : spot = none ∧ ∃ cells e fr, w.heap[b]? = some (.cells cells e fr) := by
        have hc : w.cell? ⟨b, off, spot⟩ = cs0[0]? := by simpa [Addr.add] using hcell0
        rw [List.getElem?_eq_getElem (by omega)] at hc
        unfold World.cell? at hc
        simp only at hc
        split at hc
        · rename_i c' e' fr' hh
          cases spot with
          | none => exact ⟨rfl, _, _, _, hh⟩
          | some z => simp at hc
        · simp at hc
      obtain ⟨rfl, cells, e', fr, hh⟩ := hspot
      have addz : ∀ o j, (⟨b, o, none⟩ : Addr).add j = ⟨b, o + j, none⟩ := by intro o j; unfold Addr.add; split <;> simp_all
      have key : ∀ k, k ≤ len → ∃ ds xs F, ds.length = k ∧ (∀ x, x ∈ ds → S x) ∧ rdL false w ds xs F ∧ xs.length = k * sz ∧ ∀ j, j < k * sz → xs[j]? = cells[off + j]? := by
        intro k
        induction k with
        | zero => intro _; exact ⟨[], [], [], rfl, by simp, by rw [rdL]; exact ⟨rfl, rfl⟩, by simp, by simp⟩
        | succ k ih =>
          intro hk
          obtain ⟨ds, xs, F, h1, h2, h3, h4, h5⟩ := ih (by omega)
          obtain ⟨cs', x, hc', hx'⟩ := get k (by omega)
          obtain ⟨d, G, hS, hd⟩ := ho m (by omega) _ _ hx'
          obtain ⟨_, hl', hat'⟩ := World.cells?_some hc'
          refine ⟨ds ++ [d], xs ++ cs', F ++ G, by simp [h1], ?_, rdL_append h3 (rdL_one hd), by simp [h4, hl', Nat.succ_mul], ?_⟩
          · intro y hy
            rcases List.mem_append.1 hy with hy | hy
            · exact h2 y hy
            · simp at hy; subst hy; exact hS
          · intro j hj
            rw [Nat.succ_mul] at hj
            by_cases hjk : j < k * sz
            · rw [List.getElem?_append_left (by omega)]; exact h5 j hjk
            · rw [List.getElem?_append_right (by omega), h4]
              have := hat' (j - k * sz) (by omega)
              rw [addz, addz, cell_of_row w b _ cells e' fr hh] at this
              rw [← this]
              congr 1
              omega
      obtain ⟨ds, xs, F, h1, h2, h3, h4, h5⟩ := key len (Nat.le_refl _)
      refine ⟨.sl sz ds, b :: F, ⟨ds, rfl, h2⟩, ?_⟩
      rw [rd]
      refine ⟨some ⟨b, off, none⟩, cap, by rw [h1], by omega, hm, .inr ⟨b, off, cells, e', fr, xs, F, rfl, hh, by simp, rfl, by rw [h1, h4], ?_, h3⟩⟩
      apply List.ext_getElem?
      intro j
      by_cases hj : j < xs.length
      · rw [List.getElem?_take, if_pos hj, List.getElem?_drop, Array.getElem?_toList, h5 j (by omega)]
      · rw [List.getElem?_take, if_neg hj, List.getElem?_eq_none (by omega)]

/-- A list of data of one shape is the image of a list. -/
theorem map_of_shape {α : Type} {f : α → D} : ∀ {ds : List D}, (∀ d, d ∈ ds → ∃ x, d = f x) → ∃ xs : List α, ds = xs.map f
  | [], _ => ⟨[], rfl⟩
  | d :: ds, h => by
    obtain ⟨x, hx⟩ := h d (by simp)
    obtain ⟨xs, hxs⟩ := map_of_shape (f := f) (ds := ds) (fun y hy => h y (by simp [hy]))
    exact ⟨x :: xs, by simp [hx, hxs]⟩

end
end Go.Proofs.Ytpjpnppoejnafaa
