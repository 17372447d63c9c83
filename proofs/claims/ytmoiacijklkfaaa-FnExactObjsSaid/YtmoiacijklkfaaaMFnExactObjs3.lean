import Derived.Test.YtmoiacijklkfaaaMFnExactObjs1
import Derived.Test.YtmoiacijklkfaaaMFnExactObjs2
import Derived.Deep.MidRow
/- GKTree -/
/-
  Trees in memory whose rows lie apart: with each goes the list of its blocks ('fp').
-/
namespace Go.Proofs.Ytmoiacijklkfaaa.G
open Go.RowKit Go.Proofs.YtmoiacijklkfaaaW.PrintWords Go.Proofs.YtmoiacijklkfaaaW.PrintLast Go.Proofs.YtmoiacijklkfaaaW.PrintMore
set_option linter.unusedVariables false

/-- What an element's cells say, and which blocks it leads to. -/
structure Td (α : Type) where
  sz : Nat
  E : List Nat
  T : World → α → List Value → List Nat → Prop
  T_len : ∀ {w x cs fp}, T w x cs fp → cs.length = sz
  T_one : ∀ {w x cs fp}, T w x cs fp → ∀ u ∈ cs, u.oneCell' = true
  T_typed : ∀ {w : World} {x cs fp}, T w x cs fp → ∀ k ∈ fp, ∃ q, q ∈ E ∧ ∃ cells, w.heap[k]? = some (.cells cells q (0, 0))
  T_move : ∀ {w w1 : World} {x cs fp}, (∀ k ∈ fp, w1.heap[k]? = w.heap[k]?) → T w x cs fp → T w1 x cs fp
namespace Td
variable {α β : Type}
theorem T_lt (t : Td α) {w : World} {x : α} {cs : List Value} {fp : List Nat} (h : t.T w x cs fp) : ∀ k ∈ fp, k < w.heap.size := fun k hk => by
  obtain ⟨q, _, cells, hc⟩ := t.T_typed h k hk
  exact blk_lt hc
/-- The same as a kind: elements with their blocks. -/
def kd (t : Td α) : Kd (α × List Nat) where
  sz := t.sz
  E := t.E
  K := fun w x cs => t.T w x.1 cs x.2
  M := fun w base ok x cs => t.T w x.1 cs x.2 ∧ ∀ k ∈ x.2, ok k ∧ base ≤ k
  K_len := fun h => t.T_len h
  K_one := fun h => t.T_one h
  K_below := fun hb h => t.T_move (fun k hk => hb.block k (t.T_lt h k hk)) h
  K_of_M := fun h => h.1
  M_mono := fun hok h => ⟨h.1, fun k hk => ⟨hok k (h.2 k hk).1, (h.2 k hk).2⟩⟩
  M_bound := fun h => ⟨h.1, fun k hk => ⟨⟨(h.2 k hk).1, (h.2 k hk).2, t.T_lt h.1 k hk, t.T_typed h.1 k hk⟩, (h.2 k hk).2⟩⟩
  M_move := fun hm h => ⟨t.T_move (fun k hk => hm k (h.2 k hk).1) h.1, h.2⟩
  M_lower := fun hb h => ⟨h.1, fun k hk => ⟨(h.2 k hk).1, Nat.le_trans hb (h.2 k hk).2⟩⟩
/-- The blocks of a row: its own, then its elements'. -/
def foot (v : Value) (ps : List (α × List Nat)) : List Nat := v.ownBlock.toList ++ ps.flatMap (·.2)
/-- A row of one's own with what it leads to; its blocks are fp. -/
def Row (t : Td α) (e : Nat) (w : World) (v : Value) (xs : List α) (fp : List Nat) : Prop :=
  ∃ ps : List (α × List Nat), ps.map (·.1) = xs ∧ foot v ps = fp ∧ t.kd.R e w 0 (fun k => k ∈ fp) v ps
section
variable {t : Td α} {e : Nat} {w w1 : World} {v : Value} {xs : List α} {fp : List Nat}
theorem Row_move (h : t.Row e w v xs fp) (hm : ∀ k ∈ fp, w1.heap[k]? = w.heap[k]?) : t.Row e w1 v xs fp := by
  obtain ⟨ps, h1, h2, h3⟩ := h
  exact ⟨ps, h1, h2, Kd.R_move h3 hm⟩
theorem Row_typed (h : t.Row e w v xs fp) : ∀ k ∈ fp, ∃ q, q ∈ e :: t.E ∧ ∃ cells, w.heap[k]? = some (.cells cells q (0, 0)) := by
  obtain ⟨ps, h1, rfl, h3⟩ := h
  intro k hk
  rcases List.mem_append.1 hk with hk | hk
  · obtain ⟨cells, hc⟩ := Kd.R_typed h3 k (by simpa using hk)
    exact ⟨e, List.mem_cons_self, cells, hc⟩
  · obtain ⟨p, hp, hk⟩ := List.mem_flatMap.1 hk
    obtain ⟨_, inner, ho, hr⟩ := h3
    obtain ⟨j, hj, rfl⟩ := List.getElem_of_mem hp
    obtain ⟨q, hq, cells, hc⟩ := t.T_typed (hr.2 j _ (List.getElem?_eq_getElem hj)).1 k hk
    exact ⟨q, List.mem_cons_of_mem _ hq, cells, hc⟩
theorem Row_lt (h : t.Row e w v xs fp) : ∀ k ∈ fp, k < w.heap.size := fun k hk => by
  obtain ⟨q, _, cells, hc⟩ := Row_typed h k hk
  exact blk_lt hc
theorem Row_below (h : t.Row e w v xs fp) (hb : Below w.heap.size w w1) : t.Row e w1 v xs fp := Row_move h (fun k hk => hb.block k (Row_lt h k hk))
theorem Row_nil (t : Td α) (e : Nat) (w : World) : t.Row e w (.slice none 0 0) [] [] := ⟨[], rfl, rfl, Kd.R_nil _ _ _ _ _⟩
theorem Row_slice (h : t.Row e w v xs fp) : ∃ A c, v = .slice A xs.length c := by
  obtain ⟨ps, h1, _, h3⟩ := h
  obtain ⟨A, c, h4⟩ := Kd.R_slice h3
  exact ⟨A, c, by rw [h4, ← h1, List.length_map]⟩
/-- Read by any kind whose elements it holds. -/
theorem Row_C {d : Kd α} (hs : d.sz = t.sz) (hd : ∀ x cs f, t.T w x cs f → d.K w x cs) (h : t.Row e w v xs fp) : ∃ A c, v = .slice A xs.length c ∧ xs.length ≤ c ∧ d.C w A xs.length xs := by
  obtain ⟨ps, h1, _, h3⟩ := h
  obtain ⟨A, c, h4, h5, hn, hm, h6⟩ := Kd.R_reads h3
  have hl : xs.length = ps.length := by rw [← h1, List.length_map]
  refine ⟨A, c, by rw [h4, hl], by omega, rfl, by omega, fun hp => ?_⟩
  obtain ⟨ad, ha, hc⟩ := h6 (by omega)
  refine ⟨ad, ha, fun j p hj => ?_⟩
  rw [← h1, List.getElem?_map] at hj
  obtain ⟨q, hq, rfl⟩ := Option.map_eq_some_iff.1 hj
  obtain ⟨cs, hcl, hT, hcc⟩ := hc j q hq
  refine ⟨cs, hcl.trans hs.symm, hd _ _ _ hT, fun i u hu => ?_⟩
  have := hcc i u hu
  rw [hs]; exact this
end
/-! #### the kinds -/
def scalar (enc : α → Value) (h1 : ∀ x, (enc x).oneCell' = true) : Td α where
  sz := 1
  E := []
  T := fun _ x cs fp => cs = [enc x] ∧ fp = []
  T_len := fun h => by rw [h.1]; rfl
  T_one := fun h u hu => by
    rw [h.1] at hu
    rw [List.mem_singleton.1 hu]
    exact h1 _
  T_typed := fun h k hk => by rw [h.2] at hk; cases hk
  T_move := fun _ h => h
def int (k : IntKind) : Td Int := scalar (Value.int k) (fun _ => rfl)
def bool : Td Bool := scalar Value.bool (fun _ => rfl)
def string : Td ByteArray := scalar Value.string (fun _ => rfl)
def slice (e : Nat) (t : Td α) : Td (List α) where
  sz := 1
  E := e :: t.E
  T := fun w xs cs fp => ∃ v, cs = [v] ∧ t.Row e w v xs fp
  T_len := by
    rintro w x cs fp ⟨v, rfl, _⟩
    rfl
  T_one := by
    rintro w x cs fp ⟨v, rfl, h⟩ u hu
    obtain ⟨A, c, rfl⟩ := Row_slice h
    rw [List.mem_singleton.1 hu]
    rfl
  T_typed := by
    rintro w x cs fp ⟨v, rfl, h⟩
    exact Row_typed h
  T_move := by
    rintro w w1 x cs fp hm ⟨v, rfl, h⟩
    exact ⟨v, rfl, Row_move h hm⟩
def pair (a : Td α) (b : Td β) : Td (α × β) where
  sz := a.sz + b.sz
  E := a.E ++ b.E
  T := fun w x cs fp => ∃ c0 c1 f0 f1, cs = c0 ++ c1 ∧ fp = f0 ++ f1 ∧ a.T w x.1 c0 f0 ∧ b.T w x.2 c1 f1
  T_len := by
    rintro w x cs fp ⟨c0, c1, f0, f1, rfl, rfl, h0, h1⟩
    rw [List.length_append, a.T_len h0, b.T_len h1]
  T_one := by
    rintro w x cs fp ⟨c0, c1, f0, f1, rfl, rfl, h0, h1⟩ u hu
    rcases List.mem_append.1 hu with hu | hu
    · exact a.T_one h0 u hu
    · exact b.T_one h1 u hu
  T_typed := by
    rintro w x cs fp ⟨c0, c1, f0, f1, rfl, rfl, h0, h1⟩ k hk
    rcases List.mem_append.1 hk with hk | hk
    · obtain ⟨q, hq, hc⟩ := a.T_typed h0 k hk
      exact ⟨q, List.mem_append_left _ hq, hc⟩
    · obtain ⟨q, hq, hc⟩ := b.T_typed h1 k hk
      exact ⟨q, List.mem_append_right _ hq, hc⟩
  T_move := by
    rintro w w1 x cs fp hm ⟨c0, c1, f0, f1, rfl, rfl, h0, h1⟩
    exact ⟨c0, c1, f0, f1, rfl, rfl, a.T_move (fun k hk => hm k (List.mem_append_left _ hk)) h0, b.T_move (fun k hk => hm k (List.mem_append_right _ hk)) h1⟩
def iso (t : Td α) (f : β → α) : Td β where
  sz := t.sz
  E := t.E
  T := fun w x cs fp => t.T w (f x) cs fp
  T_len := t.T_len
  T_one := t.T_one
  T_typed := t.T_typed
  T_move := t.T_move
def bot (sz : Nat) (E : List Nat) : Td α where
  sz := sz
  E := E
  T := fun _ _ _ _ => False
  T_len := fun h => h.elim
  T_one := fun h => h.elim
  T_typed := fun h => h.elim
  T_move := fun _ h => h
/-- A type nested in itself: nested at most n deep. -/
def upto (F : Td α → Td α) (sz : Nat) (E : List Nat) : Nat → Td α
  | 0 => bot sz E
  | n + 1 => F (upto F sz E n)
/-! #### rows of scalars are the kit's -/
theorem Row_of_R {enc : α → Value} {h1 : ∀ x, (enc x).oneCell' = true} {e base : Nat} {ok : Nat → Prop} {w : World} {v : Value} {xs : List α} (h : (Kd.scalar enc h1).R e w base ok v xs) :
    (scalar enc h1).Row e w v xs v.ownBlock.toList := by
  have ho := Kd.own_of_R h
  have hf : foot v (xs.map fun x => (x, ([] : List Nat))) = v.ownBlock.toList := by
    unfold foot
    rw [List.flatMap_map]
    simp
  refine ⟨xs.map fun x => (x, []), by rw [List.map_map]; exact List.map_id _, hf, fun k hk => by simp [hk], encs enc xs, ?_, ?_⟩
  · rw [List.length_map]
    exact own_weaken ho (Nat.zero_le _)
  · have hr := Kd.reps_scalar (enc := enc) xs
    refine ⟨by rw [List.length_map]; exact hr.1, fun j p hj => ?_⟩
    rw [List.getElem?_map] at hj
    obtain ⟨x, hx, rfl⟩ := Option.map_eq_some_iff.1 hj
    exact ⟨⟨hr.2 j x hx, rfl⟩, fun k hk => by cases hk⟩
theorem R_of_Row {enc : α → Value} {h1 : ∀ x, (enc x).oneCell' = true} {e base : Nat} {w : World} {v : Value} {xs : List α} {fp : List Nat} (h : (scalar enc h1).Row e w v xs fp) (hb : ∀ k ∈ fp, base ≤ k) :
    (Kd.scalar enc h1).R e w base (fun k => k ∈ fp) v xs ∧ fp = v.ownBlock.toList := by
  obtain ⟨ps, h2, h3, h0, inner, ho, hr⟩ := h
  have hps : ps = xs.map fun x => (x, ([] : List Nat)) := by
    rw [← h2, List.map_map]
    apply List.ext_getElem (by simp)
    intro j hj hj'
    rw [List.getElem_map]
    have := (hr.2 j _ (List.getElem?_eq_getElem hj)).1.2
    exact Prod.ext rfl this
  subst hps
  have hf : fp = v.ownBlock.toList := by
    rw [← h3]
    unfold foot
    rw [List.flatMap_map]
    simp
  refine ⟨⟨h0, inner, ⟨by have := ho.1; rw [List.length_map] at this; exact this, ?_⟩, by have := hr.1; rw [List.length_map] at this; exact this, fun j p hj => ?_⟩, hf⟩
  · rcases ho.2 with ⟨rfl, hn⟩ | ⟨g, cap, cur, hv, _, hh, a1, a2, a3, a4⟩
    · exact .inl ⟨rfl, by rw [List.length_map] at hn; exact hn⟩
    · rw [List.length_map] at hv a1 a4
      exact .inr ⟨g, cap, cur, hv, hb g (h0 g (by rw [hv]; rfl)), hh, a1, a2, a3, a4⟩
  · exact (hr.2 j (p, []) (by rw [List.getElem?_map, hj]; rfl)).1.1
end Td
end Go.Proofs.Ytmoiacijklkfaaa.G

/- GKMark -/
/-
  A row whose elements' rows lie apart, one element at a time: a cell of it stored, its inner rows written.
-/
namespace Go.Proofs.Ytmoiacijklkfaaa.G
open Go.RowKit Go.Proofs.YtmoiacijklkfaaaW.PrintWords Go.Proofs.YtmoiacijklkfaaaW.PrintLast Go.Proofs.YtmoiacijklkfaaaW.PrintMore
set_option linter.unusedVariables false
theorem flat_apart : ∀ (L : List (List Nat)), L.flatten.Nodup → ∀ i j (hi : i < L.length) (hj : j < L.length), i ≠ j → ∀ k, k ∈ L[i] → k ∉ L[j]
  | [], _, i, _, hi, _, _, _, _ => by simp at hi
  | l :: L, h, i, j, hi, hj, hne, k, hk => by
    rw [List.flatten_cons, List.nodup_append] at h
    obtain ⟨_, h2, h3⟩ := h
    have into : ∀ q (hq : q < L.length), k ∈ L[q] → k ∈ L.flatten := fun q hq hm => List.mem_flatten.2 ⟨_, List.getElem_mem hq, hm⟩
    match i, j with
    | 0, 0 => exact absurd rfl hne
    | 0, j + 1 =>
      intro hm
      exact h3 k hk k (into j (by simpa using hj) hm) rfl
    | i + 1, 0 =>
      intro hm
      exact h3 k hm k (into i (by simpa using hi) hk) rfl
    | i + 1, j + 1 => exact flat_apart L h2 i j (by simpa using hi) (by simpa using hj) (by omega) k hk
namespace Td
section
variable {α : Type} {t : Td α} {e : Nat} {w : World} {v : Value} {xs : List α} {fp : List Nat}
theorem flatMap_eq (ps : List (α × List Nat)) : ps.flatMap (·.2) = (ps.map (·.2)).flatten := by rw [List.flatMap_def]
/-- Element i: where it lies, what it leads to, and what may be done to it. -/
theorem Row_at (h : t.Row e w v xs fp) (hn : fp.Nodup) {i : Nat} (hi : i < xs.length) : ∃ (g cap : Nat) (cs : List Value) (f : List Nat), v = .slice (some ⟨g, 0, none⟩) xs.length cap ∧ xs.length ≤ cap ∧ t.T w xs[i] cs f ∧
    (∀ j u, cs[j]? = some u → w.cell? ⟨g, i * t.sz + j, none⟩ = some u) ∧ (∀ j, w.frozen? ⟨g, j, none⟩ = false) ∧ g ∈ fp ∧ g ∉ f ∧ f.Nodup ∧ (∀ k ∈ f, k ∈ fp) ∧ g < w.heap.size ∧
    (∀ (w' : World) (x' : α), t.T w' x' cs f → (∀ k ∈ fp, k ∉ f → w'.heap[k]? = w.heap[k]?) → t.Row e w' v (xs.set i x') fp) ∧
    (∀ (j : Nat) (u : Value) (x' : α), j < t.sz → t.T w x' (cs.take j ++ [u] ++ cs.drop (j + 1)) f → t.Row e (w.setCell ⟨g, i * t.sz + j, none⟩ u) v (xs.set i x') fp) := by
  obtain ⟨ps, rfl, hf, hR⟩ := h
  have hl : ps.length = (ps.map (·.1)).length := by rw [List.length_map]
  have hip : i < ps.length := by omega
  have hR0 := hR
  obtain ⟨h0, inner, ho, hr⟩ := hR
  have ho' := ho
  obtain ⟨ho1, ho2⟩ := ho
  rcases ho2 with ⟨_, hz⟩ | ⟨g, cap, cur, rfl, hb, hh, a1, a2, a3, a4⟩
  · omega
  have hfoot : fp = g :: (ps.map (·.2)).flatten := by rw [← hf, ← flatMap_eq]; rfl
  have hel := hr.2 i _ (List.getElem?_eq_getElem hip)
  obtain ⟨hT, hok⟩ := hel
  have hnd := hn
  rw [hfoot, List.nodup_cons] at hnd
  have hgf : g ∉ ps[i].2 := fun hg => hnd.1 (List.mem_flatten.2 ⟨_, List.mem_map.2 ⟨ps[i], List.getElem_mem hip, rfl⟩, hg⟩)
  have hseg : i * t.sz + t.sz ≤ inner.length := by rw [hr.1, ← Nat.succ_mul]; exact Nat.mul_le_mul_right _ hip
  have hcell : ∀ j u, ((inner.drop (i * t.sz)).take t.sz)[j]? = some u → w.cell? ⟨g, i * t.sz + j, none⟩ = some u := fun j u hu => by
    rw [List.getElem?_take] at hu
    split at hu
    · rw [List.getElem?_drop] at hu
      have := ho'.cells (g := g) (by simp [Value.ownBlock]) _ u hu
      rwa [add_plain] at this
    · cases hu
  have hfin : ∀ k ∈ ps[i].2, k ∈ fp := fun k hk => (hok k hk).1.1
  have hsubnd : ps[i].2.Nodup := by
    have h2 := hnd.2
    have hs : ps[i].2.Sublist (ps.map (·.2)).flatten := List.sublist_flatten_of_mem (List.mem_map.2 ⟨ps[i], List.getElem_mem hip, rfl⟩)
    exact hs.nodup h2
  have hmap2 : ∀ x' : α, (ps.set i (x', ps[i].2)).map (·.2) = ps.map (·.2) := fun x' => by
    rw [List.map_set]
    have : (ps.map (·.2)).set i ((ps.map (·.2))[i]'(by rw [List.length_map]; exact hip)) = ps.map (·.2) := List.set_getElem_self _
    rw [List.getElem_map] at this
    exact this
  have hmap1 : ∀ x' : α, (ps.set i (x', ps[i].2)).map (·.1) = (ps.map (·.1)).set i x' := fun x' => by rw [List.map_set]
  have hfoot' : ∀ x' : α, foot (.slice (some ⟨g, 0, none⟩) ps.length cap) (ps.set i (x', ps[i].2)) = fp := fun x' => by
    unfold foot
    rw [flatMap_eq, hmap2, hfoot]; rfl
  refine ⟨g, cap, (inner.drop (i * t.sz)).take t.sz, ps[i].2, by rw [List.length_map], by rw [List.length_map]; exact a1, by rw [List.getElem_map]; exact hT, hcell, fun j => blk_frozen hh j, by rw [hfoot]; exact List.mem_cons_self, hgf, hsubnd, hfin, blk_lt hh, ?_, ?_⟩
  · intro w' x' hT' hm
    refine ⟨ps.set i (x', ps[i].2), hmap1 x', hfoot' x', fun k hk => h0 k hk, inner, ?_, ?_⟩
    · rw [List.length_set]
      exact own_move ho' (fun k hk => by
        have : g = k := by simpa [Value.ownBlock] using hk
        subst this
        exact hm _ (by rw [hfoot]; exact List.mem_cons_self) hgf)
    · refine ⟨by rw [List.length_set]; exact hr.1, fun j p hj => ?_⟩
      by_cases hji : j = i
      · subst hji
        rw [List.getElem?_set_self hip] at hj
        cases hj
        exact ⟨hT', hok⟩
      · rw [List.getElem?_set_ne (by omega)] at hj
        obtain ⟨hjl, rfl⟩ := List.getElem?_eq_some_iff.1 hj
        obtain ⟨q1, q2⟩ := hr.2 j _ hj
        refine ⟨t.T_move (fun k hk => hm k (q2 k hk).1.1 ?_) q1, q2⟩
        have := flat_apart (ps.map (·.2)) hnd.2 j i (by rw [List.length_map]; exact hjl) (by rw [List.length_map]; exact hip) hji k
        rw [List.getElem_map, List.getElem_map] at this
        exact this hk
  · intro j u x' hj hT'
    have hcl : ((inner.drop (i * t.sz)).take t.sz).length = t.sz := by rw [List.length_take, List.length_drop]; omega
    have hM : t.kd.M w 0 (fun k => k ∈ ps[i].2) (x', ps[i].2) ((((inner.drop (i * t.sz)).take t.sz).take j) ++ [u] ++ ((inner.drop (i * t.sz)).take t.sz).drop (j + [u].length)) := ⟨hT', fun k hk => ⟨hk, Nat.zero_le _⟩⟩
    have hs := Kd.R_seg (d := t.kd) hR0 (i : Int) (by omega) (by omega) (c := (inner.drop (i * t.sz)).take t.sz) (seg := [u]) (j := j) hcl (fun j u hu => hcell j u hu) (by show j + 1 ≤ t.sz; omega) hM (fun k hk => ⟨hfin k hk, fun e => hgf (e ▸ hk)⟩)
    exact ⟨ps.set i (x', ps[i].2), hmap1 x', hfoot' x', hs.1⟩
end
end Td
/-- The elements marked one behind the other. -/
def mkL {α : Type} (f : α → Int → α × Int) : List α → Int → List α × Int
  | [], k => ([], k)
  | x :: xs, k => ((f x k).1 :: (mkL f xs (f x k).2).1, (mkL f xs (f x k).2).2)
theorem mkL_len {α : Type} (f : α → Int → α × Int) : ∀ (xs : List α) (k : Int), (mkL f xs k).1.length = xs.length
  | [], _ => rfl
  | x :: xs, k => by rw [mkL]; simp [mkL_len f xs]
theorem mkL_snoc {α : Type} (f : α → Int → α × Int) : ∀ (xs : List α) (x : α) (k : Int), mkL f (xs ++ [x]) k = ((mkL f xs k).1 ++ [(f x (mkL f xs k).2).1], (f x (mkL f xs k).2).2)
  | [], x, k => rfl
  | y :: ys, x, k => by rw [List.cons_append, mkL, mkL_snoc f ys x, mkL]; rfl
end Go.Proofs.Ytmoiacijklkfaaa.G

/- G83 -/
-- Laid by wip/g/gprint.py out of the translation, by the kit's print program. Lean checks it.
namespace Go.Proofs.Ytmoiacijklkfaaa.G
open Go.RowKit Go.Proofs.YtmoiacijklkfaaaW.PrintWords Go.Proofs.YtmoiacijklkfaaaW.PrintLast Go.Proofs.YtmoiacijklkfaaaW.PrintMore
attribute [local go_sem] max2_int min2_int max_two min_two max_three min_three max_four min_four   -- for this text's walks alone
set_option linter.unusedVariables false
set_option linter.unusedSimpArgs false

/-! ### laws_markText: function 83 -/
def laws_markText.l0 : Nat → Int → ByteArray → Option (ByteArray)
  | 0, _, _ => none
  | k + 1, x0, x3 => if x0 > 0 then ((some (([(wrap64 (48 + (Int.tmod x0 10))) % 256] : List Int) : List Int)).bind fun y1031 => (if (strOfNums y1031).size + x3.size ≤ 9223372036854775807 then (laws_markText.l0 k (wrap64 (Int.tdiv x0 10)) ((strOfNums y1031) ++ x3)) else (none))) else (if 1 + x3.size ≤ 9223372036854775807 then (some ((⟨#[109]⟩ : ByteArray) ++ x3)) else (none))
def laws_markText.f (k : Nat) (a0 : Int) : Option (ByteArray) := if a0 ≤ 0 then (some (⟨#[109, 48]⟩ : ByteArray)) else (laws_markText.l0 k a0 (⟨#[]⟩ : ByteArray))
set_option maxHeartbeats 8000000 in
set_option maxRecDepth 100000 in
theorem laws_markText.calls (k : Nat) (a0 : Int) (r : ByteArray) (w : World) (h : laws_markText.f k a0 = some r) :
    Calls Try.prog 83 #[.int .i64 a0] w fun e w' => e = .returned (.string r) ∧ Below w.heap.size w w' := by
  have HB := Aside0.mk (Below.refl w.heap.size w)
  have H : (if a0 ≤ 0 then (some (⟨#[109, 48]⟩ : ByteArray)) else (laws_markText.l0 k a0 (⟨#[]⟩ : ByteArray))) = some r := h
  clear h
  by_cases c2 : a0 ≤ 0
  · rw [if_pos c2] at H
    have c2b0 : decide (a0 ≤ 0) = true := decide_eq_true c2
    clear c2
    obtain rfl := Option.some.inj H
    go_enter Try.func83, Try.ntmps83
    go_wp2
    go_ret
    exact ⟨by first | rfl | (simp [errW_none, errW_some] <;> rfl) | (simp [*, errW_none, errW_some] <;> rfl), by repeat (first | (with_reducible first | exact HB.out | apply below_alloc | apply pw_below_drewN | apply below_drew1) | exact HB.out)⟩
  · rw [if_neg c2] at H
    have c2b0 : decide (a0 ≤ 0) = false := decide_eq_false c2
    clear c2
    have H' := Aside0.mk H
    clear H
    go_enter Try.func83, Try.ntmps83
    go_wp2
    go_loopg [0, 3] k (fun kq v0 v3 w' => ∃ (x0_1 : Int) (x3_1 : ByteArray), v0 = .int .i64 x0_1 ∧ v3 = .string x3_1 ∧ Aside0 (laws_markText.l0 kq x0_1 x3_1 = some r) ∧ Aside0 (kq ≤ k) ∧ Aside0 (Below w.heap.size w w'))
    case atStart => exact ⟨(a0), ((⟨#[]⟩ : ByteArray)), (by first | rfl | (simp; done) | (simp [*]; done)), (by first | rfl | (simp; done) | (simp [*]; done)), H', ⟨Nat.le_refl _⟩, ⟨by repeat (first | (with_reducible first | exact HB.out | apply below_alloc | apply pw_below_drewN | apply below_drew1) | exact HB.out)⟩⟩
    case round =>
      clear H'
      try clear c2
      try clear c2b0
      try clear p2
      obtain ⟨x0_1, x3_1, rfl, rfl, HA, HK1, HB⟩ := hrel
      cases gk with
      | zero => exact absurd HA.out (by simp [laws_markText.l0])
      | succ k1 =>
        have H := HA.out
        clear HA
        simp only [laws_markText.l0] at H
        by_cases c3 : x0_1 > 0
        · rw [if_pos c3] at H
          have c3b0 : decide (0 < x0_1) = true := decide_eq_true c3
          clear c3
          obtain ⟨y1031, hy1031⟩ : ∃ y_ : List Int, y_ = (([(wrap64 (48 + (Int.tmod x0_1 10))) % 256] : List Int)) := ⟨_, rfl⟩
          replace H : (if (strOfNums y1031).size + x3_1.size ≤ 9223372036854775807 then (laws_markText.l0 k1 (wrap64 (Int.tdiv x0_1 10)) ((strOfNums y1031) ++ x3_1)) else (none)) = some r := by first | (rw [hy1031]; with_reducible exact H) | (have H2_ := (Option.bind_some _ _).symm.trans H; rw [hy1031]; with_reducible exact H2_) | (have H2_ := (Option.bind_some _ _).symm.trans H; with_reducible exact H2_) | with_reducible exact H | (rw [hy1031]; exact H) | exact H
          have Ny1031 := Aside0.mk hy1031
          clear hy1031
          by_cases c4 : (strOfNums y1031).size + x3_1.size ≤ 9223372036854775807
          · rw [if_pos c4] at H
            have c4b0 := eq_true c4
            have c4b1 : decide ((strOfNums y1031).size + x3_1.size ≤ 9223372036854775807) = true := decide_eq_true c4
            try have c4b2 : (9223372036854775807 < (strOfNums y1031).size + x3_1.size) = False := eq_false (Nat.not_lt.2 c4)
            have H' := Aside0.mk H
            clear H
            go_wp2_with (first | ((with_reducible refine gate_dst (N := 12) rfl ?_); refine Kd.R_lit (Kd.int .u8) _ 5 ?hg (N := 12) ?hd (xs := ([(wrap64 (48 + (Int.tmod x0_1 10))) % 256] : List Int)) (inner := [.int .u8 ((wrap64 (48 + (Int.tmod x0_1 10))) % 256)]) (ok := fun _ => True) (okp := fun _ => True) ?hr ?hp (fun _ hk => hk) trivial (Below.refl _ _) (Nat.le_refl _) (by simp) ?_; (case hd => rfl); (case hg => rfl); (case hr => first | (go_simp; done) | (go_simp; rfl)); (case hp => exact (Reps.one (show Kd.M (Kd.int .u8) _ _ _ ((wrap64 (48 + (Int.tmod x0_1 10))) % 256) [.int .u8 ((wrap64 (48 + (Int.tmod x0_1 10))) % 256)] from rfl) (Reps.none _ _))); intro v1032 w5 ho6 hb hg_ hnew_; clear hg_ hnew_; (first | rw [← Ny1031.out] at ho6 | (simp only [Int.reduceToNat] at ho6; rw [← Ny1031.out] at ho6)); have n0_ := Aside0.mk (Kd.R_lower ho6 (below_size (by repeat (first | (with_reducible first | exact HB.out | apply below_alloc | apply pw_below_drewN | apply below_drew1) | exact HB.out)))); have n1_ := Aside0.mk (below_step (by repeat (first | (with_reducible first | exact HB.out | apply below_alloc | apply pw_below_drewN | apply below_drew1) | exact HB.out)) hb); clear HB; have HO1033 := n0_; have HB := n1_; clear n0_ n1_; clear hb ho6; have hcv7 := own_string (P := Try.prog) Try.underlying55 Try.underlying5 Try.underlying9 (Kd.own_of_R HO1033.out)))
            go_roundg k1
            case measure => have := HK1.out; omega
            case rel => exact ⟨(wrap64 (Int.tdiv x0_1 10)), ((strOfNums y1031) ++ x3_1), (by first | rfl | (simp; done) | (simp [*]; done)), (by first | rfl | (simp; done) | (simp [*]; done)), H', ⟨by have := HK1.out; omega⟩, ⟨by repeat (first | (with_reducible first | exact HB.out | apply below_alloc | apply pw_below_drewN | apply below_drew1) | exact HB.out)⟩⟩
          · rw [if_neg c4] at H
            exact absurd H (by simp)
        · rw [if_neg c3] at H
          have c3b0 : decide (0 < x0_1) = false := decide_eq_false c3
          clear c3
          by_cases c8 : 1 + x3_1.size ≤ 9223372036854775807
          · rw [if_pos c8] at H
            have c8b0 := eq_true c8
            have c8b1 : decide (1 + x3_1.size ≤ 9223372036854775807) = true := decide_eq_true c8
            try have c8b2 : (9223372036854775807 < 1 + x3_1.size) = False := eq_false (Nat.not_lt.2 c8)
            obtain rfl := Option.some.inj H
            go_wp2
            go_ret
            exact ⟨by first | rfl | (simp [errW_none, errW_some] <;> rfl) | (simp [*, errW_none, errW_some] <;> rfl), by repeat (first | (with_reducible first | exact HB.out | apply below_alloc | apply pw_below_drewN | apply below_drew1) | exact HB.out)⟩
          · rw [if_neg c8] at H
            exact absurd H (by simp)

end Go.Proofs.Ytmoiacijklkfaaa.G

/- PMark -/
/-
  Marks: a number's own text.
-/
namespace Go.Proofs.Ytmoiacijklkfaaa.G
open Go.RowKit Go.Proofs.YtmoiacijklkfaaaW.PrintWords Go.Proofs.YtmoiacijklkfaaaW.PrintLast Go.Proofs.YtmoiacijklkfaaaW.PrintMore
set_option linter.unusedVariables false
set_option linter.unusedSimpArgs false

/-! ### markText -/
theorem digit_size (x : Int) : (strOfNums [x]).size = 1 := by simp [strOfNums, ByteArray.size]
theorem markText_l0 : ∀ (d : Nat) (n : Int) (s : ByteArray), 0 ≤ n → n.toNat ≤ d → s.size + d ≤ 4611686018427387904 → ∃ r, Ev (fun k => laws_markText.l0 k n s) r
  | 0, n, s, h0, hd, hs => by
    obtain rfl : n = 0 := by omega
    exact ⟨_, Ev.step (f := fun _ => some ((⟨#[109]⟩ : ByteArray) ++ s)) (fun k => by rw [laws_markText.l0, if_neg (by omega), if_pos (by omega)]) (Ev.now _)⟩
  | d + 1, n, s, h0, hd, hs => by
    by_cases hn : n > 0
    · have hq : Int.tdiv n 10 = n / 10 := Int.tdiv_eq_ediv_of_nonneg h0
      obtain ⟨r, hr⟩ := markText_l0 d (n / 10) (strOfNums [(wrap64 (48 + Int.tmod n 10)) % 256] ++ s) (by omega) (by omega) (by rw [ByteArray.size_append, digit_size]; omega)
      refine ⟨r, Ev.step (f := fun k => laws_markText.l0 k (n / 10) (strOfNums [(wrap64 (48 + Int.tmod n 10)) % 256] ++ s)) (fun k => ?_) hr⟩
      rw [laws_markText.l0, if_pos hn, Option.bind_some, if_pos (by rw [digit_size]; omega), hq]
      by_cases hb : n ≤ 9223372036854775807
      · rw [w64 (by omega) (by omega)]
      · omega
    · obtain rfl : n = 0 := by omega
      exact ⟨_, Ev.step (f := fun _ => some ((⟨#[109]⟩ : ByteArray) ++ s)) (fun k => by rw [laws_markText.l0, if_neg (by omega), if_pos (by omega)]) (Ev.now _)⟩
theorem markText_ex (n : Int) (h0 : 0 ≤ n) (h1 : n ≤ 1099511627776) : ∃ r, Ev (fun k => laws_markText.f k n) r := by
  by_cases hn : n ≤ 0
  · exact ⟨_, Ev.congr (f := fun _ => some (⟨#[109, 48]⟩ : ByteArray)) (fun k => by rw [laws_markText.f, if_pos hn]) (Ev.now _)⟩
  · obtain ⟨r, hr⟩ := markText_l0 n.toNat n ⟨#[]⟩ h0 (Nat.le_refl _) (by simp [ByteArray.size]; omega)
    exact ⟨r, Ev.congr (fun k => by rw [laws_markText.f, if_neg hn]) hr⟩
open Classical in
noncomputable def mt (n : Int) : ByteArray := if h : ∃ r, Ev (fun k => laws_markText.f k n) r then h.choose else ⟨#[]⟩
theorem mt_ev (n : Int) (h0 : 0 ≤ n) (h1 : n ≤ 1099511627776) : Ev (fun k => laws_markText.f k n) (mt n) := by
  have h := markText_ex n h0 h1
  unfold mt
  rw [dif_pos h]
  exact h.choose_spec
end Go.Proofs.Ytmoiacijklkfaaa.G

/- G52 -/
-- Laid by wip/g/gprint.py out of the translation, by the kit's print program. Lean checks it.
namespace Go.Proofs.Ytmoiacijklkfaaa.G
open Go.RowKit Go.Proofs.YtmoiacijklkfaaaW.PrintWords Go.Proofs.YtmoiacijklkfaaaW.PrintLast Go.Proofs.YtmoiacijklkfaaaW.PrintMore
attribute [local go_sem] max2_int min2_int max_two min_two max_three min_three max_four min_four   -- for this text's walks alone
set_option linter.unusedVariables false
set_option linter.unusedSimpArgs false

/-! ### laws_markStringS: function 52 -/
def laws_markStringS.l0 : Nat → List ByteArray → Int → Int → Option (Int × List ByteArray)
  | 0, _, _, _ => none
  | k + 1, x0, x1, x5 => if x5 < (x0.length : Int) then ((laws_markText.f k x1).bind fun t1034 => (if 0 ≤ x5 then (laws_markStringS.l0 k (x0.set (x5 : Int).toNat t1034) (wrap64 (x1 + 1)) (wrap64 (x5 + 1))) else (none))) else (some (x1, x0))
def laws_markStringS.f (k : Nat) (l0 : List ByteArray) (a1 : Int) : Option (Int × List ByteArray) := laws_markStringS.l0 k l0 a1 0
set_option maxHeartbeats 8000000 in
set_option maxRecDepth 100000 in
theorem laws_markStringS.calls (k : Nat) (P0_ : Nat → Prop) (u9000_ : Value) (l0 : List ByteArray) (a1 : Int) (r1 : Int) (r2 : List ByteArray) (w0 w : World) (hB : Below w0.heap.size w0 w) (ho0 : Kd.R Kd.string 9 w w0.heap.size P0_ u9000_ l0) (h : laws_markStringS.f k l0 a1 = some (r1, r2)) :
    Calls Try.prog 52 #[u9000_, .int .i64 a1] w fun e w' => e = .returned (.int .i64 r1) ∧ Kd.R Kd.string 9 w' w0.heap.size (fun k_ => (P0_ k_ ∨ w.heap.size ≤ k_)) u9000_ r2 ∧ Below w0.heap.size w0 w' ∧ Kept w w' (fun k_ => P0_ k_) := by
  have HO0 := Aside0.mk (show Kd.R Kd.string 9 w w0.heap.size (fun k_ => (P0_ k_ ∨ w.heap.size ≤ k_)) u9000_ l0 from Kd.R_mono ho0 (fun k_ hk => (.inl hk)))
  have HK := Aside0.mk (Kept.refl w (fun k_ => P0_ k_))
  have HW0 := Aside0.mk hB.size
  have HB := Aside0.mk hB
  clear hB
  have H : (laws_markStringS.l0 k l0 a1 0) = some (r1, r2) := h
  clear h
  have H' := Aside0.mk H
  clear H
  go_enter Try.func52, Try.ntmps52
  go_wp2
  go_loopg [1, 5] k (fun kq v1 v5 w' => ∃ (x0_1 : List ByteArray) (x1_1 : Int) (x5_1 : Int), v1 = .int .i64 x1_1 ∧ v5 = .int .i64 x5_1 ∧ Aside0 (laws_markStringS.l0 kq x0_1 x1_1 x5_1 = some (r1, r2)) ∧ Aside0 (kq ≤ k) ∧ Aside0 (Kd.R Kd.string 9 w' w0.heap.size (fun k_ => (P0_ k_ ∨ w.heap.size ≤ k_)) u9000_ x0_1) ∧ Aside0 (Kept w w' (fun k_ => P0_ k_)) ∧ Aside0 (Below w0.heap.size w0 w'))
  case atStart => exact ⟨(l0), (a1), (0), (by first | rfl | (simp; done) | (simp [*]; done)), (by first | rfl | (simp; done) | (simp [*]; done)), H', ⟨Nat.le_refl _⟩, ⟨by (with_reducible repeat (first | apply Kd.R_alloc | apply Kd.R_drewN | apply Kd.R_drew)); exact HO0.out⟩, ⟨by repeat (first | (with_reducible first | exact HK.out | apply Kept.alloc | apply Kept.drewN | apply Kept.drew) | exact HK.out)⟩, ⟨by repeat (first | (with_reducible first | exact HB.out | apply below_alloc | apply pw_below_drewN | apply below_drew1) | exact HB.out)⟩⟩
  case round =>
    clear H'
    try clear p2
    obtain ⟨x0_1, x1_1, x5_1, rfl, rfl, HA, HK1, HO_0, HK, HB⟩ := hrel
    cases gk with
    | zero => exact absurd HA.out (by simp [laws_markStringS.l0])
    | succ k1 =>
      have H := HA.out
      clear HA
      simp only [laws_markStringS.l0] at H
      by_cases c3 : x5_1 < (x0_1.length : Int)
      · rw [if_pos c3] at H
        have c3b0 : decide (x5_1 < (x0_1.length : Int)) = true := decide_eq_true c3
        clear c3
        replace H := Option.bind_eq_some_iff.mp H
        obtain ⟨t1034, A40, H⟩ := H
        replace H : (if 0 ≤ x5_1 then (laws_markStringS.l0 k1 (x0_1.set (x5_1 : Int).toNat t1034) (wrap64 (x1_1 + 1)) (wrap64 (x5_1 + 1))) else (none)) = some (r1, r2) := H
        have A4 := Aside0.mk A40
        clear A40
        by_cases c5 : 0 ≤ x5_1
        · rw [if_pos c5] at H
          have c5b0 : decide (0 ≤ x5_1) = true := decide_eq_true c5
          clear c5
          obtain ⟨y1035, hy1035⟩ : ∃ y_ : List ByteArray, y_ = (x0_1.set (x5_1 : Int).toNat t1034) := ⟨_, rfl⟩
          replace H : (laws_markStringS.l0 k1 y1035 (wrap64 (x1_1 + 1)) (wrap64 (x5_1 + 1))) = some (r1, r2) := by first | (rw [hy1035]; with_reducible exact H) | (have H2_ := (Option.bind_some _ _).symm.trans H; rw [hy1035]; with_reducible exact H2_) | (have H2_ := (Option.bind_some _ _).symm.trans H; with_reducible exact H2_) | with_reducible exact H | (rw [hy1035]; exact H) | exact H
          have Ny1035 := Aside0.mk hy1035
          clear hy1035
          have H' := Aside0.mk H
          clear H
          obtain ⟨Ao7, co7, eo7⟩ := Kd.R_slice HO_0.out
          subst eo7
          go_wp2_with (first | ((with_reducible refine gate_callee (f := 83) rfl ?_); refine goesL_ (some 15) rfl rfl Try.func83 (by kernel_rfl) rfl #[.int .i64 x1_1] rfl (by (try simp only [List.map_toArray, List.map_cons, List.map_nil]); first | done | rfl | (simp only [List.length_drop, List.length_take]; rfl)) ?_; (with_reducible refine (laws_markText.calls k1 x1_1 t1034 _ A4.out).mono ?_); rintro e w8 ⟨rfl, hb⟩; refine ⟨_, rfl, ?_⟩; have n0_ := Aside0.mk (Kd.R_below (by (with_reducible repeat (first | apply Kd.R_alloc | apply Kd.R_drewN | apply Kd.R_drew)); exact HO_0.out) hb); have n1_ := Aside0.mk (Kept.below (S := (fun k_ => P0_ k_)) (by repeat (first | (with_reducible first | exact HK.out | apply Kept.alloc | apply Kept.drewN | apply Kept.drew) | exact HK.out)) hb); have n2_ := Aside0.mk (below_step (by repeat (first | (with_reducible first | exact HB.out | apply below_alloc | apply pw_below_drewN | apply below_drew1) | exact HB.out)) hb); clear HO_0; clear HK; clear HB; have HO_0 := n0_; have HK := n1_; have HB := n2_; clear n0_ n1_ n2_; (try clear hb); (try clear hb2); (try clear hk); (try clear hi); have p6 : 0 ≤ (x5_1 : Int) := of_decide_eq_true (by first | (with_reducible assumption) | assumption); have q6 : (x5_1 : Int) < ((x0_1.length : Int) : Int) := of_decide_eq_true (by first | (with_reducible assumption) | assumption); obtain ⟨go6, co6, eo6, gb6, gl6, cl6, HG6⟩ := Kd.R_form HO_0.out (by omega); (first | cases eo6 | (injection eo6 with ea_ en_ ec_; (first | subst ea_ | (injection ea_ with ea_; subst ea_)); subst ec_; clear en_)); have GB6 := Aside0.mk gb6; have GG6 := Aside0.mk HG6; clear gb6 gl6 HG6; have HMgo6 := Aside0.mk (show (P0_ go6 ∨ w.heap.size ≤ go6) from (HO_0.out.1 _ rfl)); obtain ⟨hx6_0, hf6_0⟩ := Kd.R_celln (⟨#[]⟩ : ByteArray) HO_0.out (x5_1 : Int) p6 q6; replace p6 := eq_true p6; replace q6 := eq_true q6; obtain ⟨hy9_, hz9_⟩ := Kd.R_celln (⟨#[]⟩ : ByteArray) HO_0.out (x5_1 : Int) (of_decide_eq_true (by first | (with_reducible assumption) | assumption)) (of_decide_eq_true (by first | (with_reducible assumption) | assumption)); have HP9 := Kd.R_putg HO_0.out (x5_1 : Int) t1034) | ((with_reducible refine gate_store (t := 9) (p := 16) rfl ?_); refine store_event (t := 9) (p := 16) (v := ?vo_w10) (w1 := (w8.setCell ⟨go6, (x5_1 : Int).toNat, none⟩ (.string t1034))) ?hg ?ho ?hn ?hr ?_; (case ho => rfl); (case hg => rfl); (case hn => rfl); (case hr => first | (go_simp; done) | (go_simp; rfl)); intro w10 hw; have hg : w8.grownBy w10 (some go6) := (by rw [hw]; exact HP9.2); have hp_ : Kd.R Kd.string 9 w10 w0.heap.size (fun k_ => (P0_ k_ ∨ w.heap.size ≤ k_)) (.slice (some ⟨go6, 0, none⟩) x0_1.length co7) y1035 := (by rw [hw, Ny1035.out]; exact HP9.1); clear HP9; have n0_ := Aside0.mk (hp_); have n1_ := Aside0.mk ((by rw [hw]; exact below_set (HB.out) GB6.out : Below w0.heap.size w0 w10)); have n2_ := Aside0.mk (Kept.of_grown (S := (fun k_ => P0_ k_)) hg (by repeat (first | (with_reducible first | exact HK.out | apply Kept.alloc | apply Kept.drewN | apply Kept.drew) | exact HK.out)) (fun k_ e_ => (HO_0.out.1 k_ e_))); clear HO_0; clear HB; clear HK; have HO_0 := n0_; have HB := n1_; have HK := n2_; clear n0_ n1_ n2_; clear hg hw hp_))
          go_roundg k1
          case measure => have := HK1.out; omega
          case rel => exact ⟨(y1035), (wrap64 (x1_1 + 1)), (wrap64 (x5_1 + 1)), (by first | rfl | (simp; done) | (simp [*]; done)), (by first | rfl | (simp; done) | (simp [*]; done)), H', ⟨by have := HK1.out; omega⟩, ⟨by (with_reducible repeat (first | apply Kd.R_alloc | apply Kd.R_drewN | apply Kd.R_drew)); exact HO_0.out⟩, ⟨by repeat (first | (with_reducible first | exact HK.out | apply Kept.alloc | apply Kept.drewN | apply Kept.drew) | exact HK.out)⟩, ⟨by repeat (first | (with_reducible first | exact HB.out | apply below_alloc | apply pw_below_drewN | apply below_drew1) | exact HB.out)⟩⟩
        · rw [if_neg c5] at H
          exact absurd H (by simp)
      · rw [if_neg c3] at H
        have c3b0 : decide (x5_1 < (x0_1.length : Int)) = false := decide_eq_false c3
        clear c3
        simp only [Option.some.injEq, Prod.mk.injEq] at H
        obtain ⟨rfl, rfl⟩ := H
        obtain ⟨Ao11, co11, eo11⟩ := Kd.R_slice HO_0.out
        subst eo11
        go_wp2
        go_ret
        exact ⟨by first | rfl | (simp [errW_none, errW_some] <;> rfl) | (simp [*, errW_none, errW_some] <;> rfl), by (with_reducible repeat (first | apply Kd.R_alloc | apply Kd.R_drewN | apply Kd.R_drew)); exact HO_0.out, by repeat (first | (with_reducible first | exact HB.out | apply below_alloc | apply pw_below_drewN | apply below_drew1) | exact HB.out), by repeat (first | (with_reducible first | exact HK.out | apply Kept.alloc | apply Kept.drewN | apply Kept.drew) | exact HK.out)⟩

end Go.Proofs.Ytmoiacijklkfaaa.G

/- GKMarkS -/
/-
  Marks: texts and rows whose elements lie apart are marked in place.
-/
namespace Go.Proofs.Ytmoiacijklkfaaa.G
open Go.RowKit Go.Proofs.YtmoiacijklkfaaaW.PrintWords Go.Proofs.YtmoiacijklkfaaaW.PrintLast Go.Proofs.YtmoiacijklkfaaaW.PrintMore
set_option linter.unusedVariables false
set_option linter.unusedSimpArgs false
theorem set_mid {α : Type} (ps bs : List α) (x y : α) : (ps ++ x :: bs).set ps.length y = ps ++ y :: bs := by
  rw [List.set_append_right _ _ (Nat.le_refl _)]; simp
theorem set_at {α : Type} (ps bs : List α) (x y : α) {i : Nat} (h : ps.length = i) : (ps ++ x :: bs).set i y = ps ++ y :: bs := by
  subst h; exact set_mid ps bs x y
theorem get_mid {α : Type} (ps bs : List α) (x : α) (h : ps.length < (ps ++ x :: bs).length) : (ps ++ x :: bs)[ps.length] = x := by
  rw [List.getElem_append_right (Nat.le_refl _)]; simp
theorem mkL_app {α : Type} (f : α → Int → α × Int) : ∀ (xs ys : List α) (k : Int), mkL f (xs ++ ys) k = ((mkL f xs k).1 ++ (mkL f ys (mkL f xs k).2).1, (mkL f ys (mkL f xs k).2).2)
  | [], ys, k => rfl
  | x :: xs, ys, k => by rw [List.cons_append, mkL, mkL_app f xs ys, mkL]; rfl
theorem mkL_mono {α : Type} {f : α → Int → α × Int} (hf : ∀ x k, k ≤ (f x k).2) : ∀ (xs : List α) (k : Int), k ≤ (mkL f xs k).2
  | [], k => Int.le_refl _
  | x :: xs, k => Int.le_trans (hf x k) (mkL_mono hf xs _)
theorem mkL_take_le {α : Type} {f : α → Int → α × Int} (hf : ∀ x k, k ≤ (f x k).2) (xs : List α) (i : Nat) (k : Int) : (mkL f (xs.take i) k).2 ≤ (mkL f xs k).2 := by
  conv => rhs; rw [← List.take_append_drop i xs, mkL_app]
  exact mkL_mono hf _ _
theorem kept_trans {w w1 w2 : World} {S S2 : Nat → Prop} (h : Kept w w1 S) (k : Kept w1 w2 S2) (hs : ∀ i, S2 i → S i ∨ w.heap.size ≤ i) : Kept w w2 S := h.then_ k hs
/-! ### texts -/
noncomputable def mkS (_ : ByteArray) (k : Int) : ByteArray × Int := (mt k, k + 1)
theorem mkS_mono (x : ByteArray) (k : Int) : k ≤ (mkS x k).2 := by unfold mkS; show k ≤ k + 1; omega
theorem mkS_count : ∀ (xs : List ByteArray) (k : Int), (mkL mkS xs k).2 = k + xs.length
  | [], k => by simp [mkL]
  | x :: xs, k => by
    rw [mkL]
    show (mkL mkS xs (mkS x k).2).2 = _
    rw [mkS_count xs]
    show k + 1 + (xs.length : Int) = _
    rw [List.length_cons]; omega
theorem markStrs_l0 (xs : List ByteArray) (a : Int) (h0 : 0 ≤ a) (h1 : a + xs.length ≤ 1099511627776) : ∀ (d i : Nat), i + d = xs.length →
    Ev (fun k => laws_markStringS.l0 k ((mkL mkS (xs.take i) a).1 ++ xs.drop i) (mkL mkS (xs.take i) a).2 i) ((mkL mkS xs a).2, (mkL mkS xs a).1)
  | 0, i, hd => by
    have hlen : ((mkL mkS (xs.take i) a).1 ++ xs.drop i).length = xs.length := by rw [List.length_append, mkL_len, ← List.length_append, List.take_append_drop]
    refine Ev.step (fun k => by rw [laws_markStringS.l0]) (ev_if_neg (by rw [hlen]; omega) (ev_some ?_))
    rw [List.take_of_length_le (by omega), List.drop_of_length_le (by omega), List.append_nil]
  | d + 1, i, hd => by
    have hi : i < xs.length := by omega
    have hlen : ((mkL mkS (xs.take i) a).1 ++ xs.drop i).length = xs.length := by rw [List.length_append, mkL_len, ← List.length_append, List.take_append_drop]
    have hc := mkS_count (xs.take i) a
    have hlt : ((xs.take i).length : Int) = i := by rw [List.length_take]; omega
    have hlen2 := hlen
    have ih := markStrs_l0 xs a h0 h1 d (i + 1) (by omega)
    rw [List.take_succ_eq_append_getElem hi, mkL_snoc] at ih
    refine Ev.step (fun k => by rw [laws_markStringS.l0]) (ev_if_pos (by rw [hlen]; omega) ?_)
    refine Ev.bind (mt_ev _ (by omega) (by omega)) (ev_if_pos (by omega) ?_)
    rw [wsucc (n := xs.length) hi (by omega), w64 (by omega) (by omega)]
    refine Ev.congr (f := fun k => laws_markStringS.l0 k ((mkL mkS (xs.take i) a).1 ++ [(mkS xs[i] (mkL mkS (xs.take i) a).2).1] ++ xs.drop (i + 1)) (mkS xs[i] (mkL mkS (xs.take i) a).2).2 ((i + 1 : Nat) : Int)) (fun k => ?_) ih
    congr 1
    rw [List.drop_eq_getElem_cons hi, Int.toNat_natCast]
    have hl : (mkL mkS (xs.take i) a).1.length = i := by rw [mkL_len, List.length_take]; omega
    rw [set_at _ _ _ _ hl]
    simp [mkS]
theorem markStrs_ev (xs : List ByteArray) (a : Int) (h0 : 0 ≤ a) (h1 : a + xs.length ≤ 1099511627776) : Ev (fun k => laws_markStringS.f k xs a) ((mkL mkS xs a).2, (mkL mkS xs a).1) := by
  unfold laws_markStringS.f
  exact markStrs_l0 xs a h0 h1 xs.length 0 (by omega)
/-- markStringS in place. -/
theorem markStrs_calls (xs : List ByteArray) (v : Value) (fp : List Nat) (a : Int) (w0 w : World) (hB : Below w0.heap.size w0 w) (hr : Td.string.Row 9 w v xs fp) (hb : ∀ k ∈ fp, w0.heap.size ≤ k) (h0 : 0 ≤ a) (h1 : a + xs.length ≤ 1099511627776) :
    Calls Try.prog 52 #[v, .int .i64 a] w fun e w' => e = .returned (.int .i64 (mkL mkS xs a).2) ∧ Td.string.Row 9 w' v (mkL mkS xs a).1 fp ∧ Below w0.heap.size w0 w' ∧ Kept w w' (fun k => k ∈ fp) := by
  obtain ⟨K, hK⟩ := markStrs_ev xs a h0 h1
  obtain ⟨hR, hfp⟩ := Td.R_of_Row (enc := Value.string) (h1 := fun _ => rfl) (e := 9) (base := w0.heap.size) hr hb
  refine (laws_markStringS.calls K (fun k => k ∈ fp) v xs a _ _ w0 w hB hR (hK K (Nat.le_refl _))).mono ?_
  rintro e w' ⟨rfl, hR', hB', hk⟩
  refine ⟨rfl, ?_, hB', hk⟩
  have := Td.Row_of_R (enc := Value.string) (h1 := fun _ => rfl) hR'
  rwa [← hfp] at this
end Go.Proofs.Ytmoiacijklkfaaa.G

/- GKVal -/
/-
  Values (the program's) as trees whose rows lie apart.
-/
namespace Go.Proofs.Ytmoiacijklkfaaa.G
open Go.RowKit Go.Proofs.YtmoiacijklkfaaaW.PrintWords Go.Proofs.YtmoiacijklkfaaaW.PrintLast Go.Proofs.YtmoiacijklkfaaaW.PrintMore
set_option linter.unusedVariables false
abbrev TVal := S44
/-- A value, n deep at most. -/
def tF (d : Td TVal) : Td TVal := Td.iso (Td.pair (Td.int .i64) (Td.pair Td.string (Td.pair (Td.int .i64) (Td.pair (Td.slice 9 Td.string) (Td.slice 44 d))))) (fun x => (x.f0, x.f1, x.f2, x.f3, x.f4))
abbrev tV (n : Nat) : Td TVal := Td.upto tF 5 [9, 44] n
theorem tV_sz : ∀ n, (tV n).sz = 5
  | 0 => rfl
  | n + 1 => rfl
section
variable {n : Nat} {w : World} {x : TVal} {cs : List Value} {fp : List Nat}
theorem tV_open (h : (tV (n + 1)).T w x cs fp) : ∃ v3 v4 f3 f4, cs = [.int .i64 x.f0, .string x.f1, .int .i64 x.f2, v3, v4] ∧ fp = f3 ++ f4 ∧ Td.string.Row 9 w v3 x.f3 f3 ∧ (tV n).Row 44 w v4 x.f4 f4 := by
  obtain ⟨_, _, _, q0, e0, p0, ⟨rfl, rfl⟩, _, _, _, q1, e1, p1, ⟨rfl, rfl⟩, _, _, _, q2, e2, p2, ⟨rfl, rfl⟩, _, _, f3, f4, e3, p3, ⟨v3, rfl, h3⟩, ⟨v4, rfl, h4⟩⟩ := h
  exact ⟨v3, v4, f3, f4, by rw [e0, e1, e2, e3]; rfl, by rw [p0, p1, p2, p3]; rfl, h3, h4⟩
theorem tV_mk {v3 v4 : Value} {f3 f4 : List Nat} (h3 : Td.string.Row 9 w v3 x.f3 f3) (h4 : (tV n).Row 44 w v4 x.f4 f4) : (tV (n + 1)).T w x [.int .i64 x.f0, .string x.f1, .int .i64 x.f2, v3, v4] (f3 ++ f4) :=
  ⟨[_], [_, _, _, _], [], _, rfl, rfl, ⟨rfl, rfl⟩, [_], [_, _, _], [], _, rfl, rfl, ⟨rfl, rfl⟩, [_], [_, _], [], _, rfl, rfl, ⟨rfl, rfl⟩, [_], [_], _, _, rfl, rfl, ⟨v3, rfl, h3⟩, ⟨v4, rfl, h4⟩⟩
end
theorem str_C {e : Nat} {w : World} {v : Value} {xs : List ByteArray} {fp : List Nat} (h : Td.string.Row e w v xs fp) : ∃ A c, v = .slice A xs.length c ∧ xs.length ≤ c ∧ Kd.C Kd.string w A xs.length xs :=
  Td.Row_C (d := Kd.string) (t := Td.string) rfl (fun x cs f (h : cs = [.string x] ∧ f = []) => h.1) h
theorem tV_K : ∀ {n : Nat} {w : World} {x : TVal} {cs : List Value} {fp : List Nat}, (tV n).T w x cs fp → k44.K w x cs
  | 0, _, _, _, _, h => h.elim
  | n + 1, w, x, cs, fp, h => by
    obtain ⟨v3, v4, f3, f4, rfl, rfl, h3, h4⟩ := tV_open h
    obtain ⟨A3, c3, rfl, l3, g3⟩ := str_C h3
    obtain ⟨A4, c4, rfl, l4, g4⟩ := Td.Row_C (d := k44) (tV_sz n).symm (fun _ _ _ h => tV_K h) h4
    exact k44_mk w x l3 g3 l4 g4
theorem tV_C {n e : Nat} {w : World} {v : Value} {xs : List TVal} {fp : List Nat} (h : (tV n).Row e w v xs fp) : ∃ A c, v = .slice A xs.length c ∧ xs.length ≤ c ∧ Kd.C k44 w A xs.length xs :=
  Td.Row_C (tV_sz n).symm (fun _ _ _ h => tV_K h) h
end Go.Proofs.Ytmoiacijklkfaaa.G

/- GKValAt -/
/-
  A row of values whose rows lie apart: one value of it, its cells stored, its keys and kids written.
-/
namespace Go.Proofs.Ytmoiacijklkfaaa.G
open Go.RowKit Go.Proofs.YtmoiacijklkfaaaW.PrintWords Go.Proofs.YtmoiacijklkfaaaW.PrintLast Go.Proofs.YtmoiacijklkfaaaW.PrintMore
set_option linter.unusedVariables false
section
variable {n : Nat} {w : World} {v : Value} {ps bs : List TVal} {x : TVal} {fp : List Nat}
theorem RowV_at (h : (tV (n + 1)).Row 44 w v (ps ++ x :: bs) fp) (hn : fp.Nodup) : ∃ (g cap : Nat) (v3 v4 : Value) (f3 f4 : List Nat), v = .slice (some ⟨g, 0, none⟩) (ps ++ x :: bs).length cap ∧ (ps ++ x :: bs).length ≤ cap ∧
    (w.cell? ⟨g, ps.length * 5, none⟩ = some (.int .i64 x.f0) ∧ w.cell? ⟨g, ps.length * 5 + 1, none⟩ = some (.string x.f1) ∧ w.cell? ⟨g, ps.length * 5 + 2, none⟩ = some (.int .i64 x.f2) ∧ w.cell? ⟨g, ps.length * 5 + 3, none⟩ = some v3 ∧ w.cell? ⟨g, ps.length * 5 + 4, none⟩ = some v4) ∧
    (∀ j, w.frozen? ⟨g, j, none⟩ = false) ∧ Td.string.Row 9 w v3 x.f3 f3 ∧ (tV n).Row 44 w v4 x.f4 f4 ∧ f3.Nodup ∧ f4.Nodup ∧ (∀ k ∈ f3, k ∈ fp) ∧ (∀ k ∈ f4, k ∈ fp) ∧
    (∀ a : Int, (tV (n + 1)).Row 44 (w.setCell ⟨g, ps.length * 5, none⟩ (.int .i64 a)) v (ps ++ { x with f0 := a } :: bs) fp) ∧
    (∀ a : ByteArray, (tV (n + 1)).Row 44 (w.setCell ⟨g, ps.length * 5 + 1, none⟩ (.string a)) v (ps ++ { x with f1 := a } :: bs) fp) ∧
    (∀ a : Int, (tV (n + 1)).Row 44 (w.setCell ⟨g, ps.length * 5 + 2, none⟩ (.int .i64 a)) v (ps ++ { x with f2 := a } :: bs) fp) ∧
    (∀ (w' : World) (ys : List ByteArray), Td.string.Row 9 w' v3 ys f3 → (∀ k ∈ fp, k ∉ f3 → w'.heap[k]? = w.heap[k]?) → (tV (n + 1)).Row 44 w' v (ps ++ { x with f3 := ys } :: bs) fp) ∧
    (∀ (w' : World) (ys : List TVal), (tV n).Row 44 w' v4 ys f4 → (∀ k ∈ fp, k ∉ f4 → w'.heap[k]? = w.heap[k]?) → (tV (n + 1)).Row 44 w' v (ps ++ { x with f4 := ys } :: bs) fp) ∧ g ∈ fp ∧ g < w.heap.size := by
  have hi : ps.length < (ps ++ x :: bs).length := by simp
  obtain ⟨g, cap, cs, f, hv, hcap, hT, hcell, hfz, hg, hgf, hfn, hsub, hlt, up1, up2⟩ := Td.Row_at h hn hi
  rw [get_mid ps bs x hi] at hT
  obtain ⟨v3, v4, f3, f4, rfl, rfl, h3, h4⟩ := tV_open hT
  rw [List.nodup_append] at hfn
  obtain ⟨n3, n4, n34⟩ := hfn
  have hsz : (tV (n + 1)).sz = 5 := rfl
  rw [hsz] at hcell
  refine ⟨g, cap, v3, v4, f3, f4, hv, hcap, ⟨hcell 0 _ rfl, hcell 1 _ rfl, hcell 2 _ rfl, hcell 3 _ rfl, hcell 4 _ rfl⟩, hfz, h3, h4, n3, n4, fun k hk => hsub k (List.mem_append_left _ hk), fun k hk => hsub k (List.mem_append_right _ hk), ?_, ?_, ?_, ?_, ?_, hg, hlt⟩
  · intro a
    have := up2 0 (.int .i64 a) { x with f0 := a } (by rw [hsz]; omega) (tV_mk (x := { x with f0 := a }) h3 h4)
    rwa [set_mid, hsz] at this
  · intro a
    have := up2 1 (.string a) { x with f1 := a } (by rw [hsz]; omega) (tV_mk (x := { x with f1 := a }) h3 h4)
    rwa [set_mid, hsz] at this
  · intro a
    have := up2 2 (.int .i64 a) { x with f2 := a } (by rw [hsz]; omega) (tV_mk (x := { x with f2 := a }) h3 h4)
    rwa [set_mid, hsz] at this
  · intro w' ys hr hm
    have h4' : (tV n).Row 44 w' v4 x.f4 f4 := Td.Row_move h4 (fun k hk => hm k (hsub k (List.mem_append_right _ hk)) (fun h3' => n34 k h3' k hk rfl))
    have := up1 w' { x with f3 := ys } (tV_mk (x := { x with f3 := ys }) hr h4') (fun k hk hnk => hm k hk (fun h => hnk (List.mem_append_left _ h)))
    rwa [set_mid] at this
  · intro w' ys hr hm
    have h3' : Td.string.Row 9 w' v3 x.f3 f3 := Td.Row_move h3 (fun k hk => hm k (hsub k (List.mem_append_left _ hk)) (fun h4' => n34 k hk k h4' rfl))
    have := up1 w' { x with f4 := ys } (tV_mk (x := { x with f4 := ys }) h3' hr) (fun k hk hnk => hm k hk (fun h => hnk (List.mem_append_right _ h)))
    rwa [set_mid] at this
end
end Go.Proofs.Ytmoiacijklkfaaa.G

/- GKMarkV -/
/-
  Marks: a tree of values whose rows lie apart is marked in place, each text and number with its own mark.
-/
namespace Go.Proofs.Ytmoiacijklkfaaa.G
open Go.RowKit Go.Proofs.YtmoiacijklkfaaaW.PrintWords Go.Proofs.YtmoiacijklkfaaaW.PrintLast Go.Proofs.YtmoiacijklkfaaaW.PrintMore
set_option linter.unusedVariables false
set_option linter.unusedSimpArgs false
/-! ### values -/
noncomputable def mkV : Nat → TVal → Int → TVal × Int
  | 0, x, k => (x, k)
  | n + 1, x, k => (⟨k, mt (k + 1), k + 2, (mkL mkS x.f3 (k + 3)).1, (mkL (mkV n) x.f4 (mkL mkS x.f3 (k + 3)).2).1⟩, (mkL (mkV n) x.f4 (mkL mkS x.f3 (k + 3)).2).2)
theorem mkV_mono : ∀ (n : Nat) (x : TVal) (k : Int), k ≤ (mkV n x k).2
  | 0, x, k => Int.le_refl _
  | n + 1, x, k => by
    have h1 := mkL_mono mkS_mono x.f3 (k + 3)
    have h2 := mkL_mono (mkV_mono n) x.f4 (mkL mkS x.f3 (k + 3)).2
    rw [mkV]
    show k ≤ (mkL (mkV n) x.f4 (mkL mkS x.f3 (k + 3)).2).2
    omega
end Go.Proofs.Ytmoiacijklkfaaa.G

/- PValCnt -/
/-
  How many marks a value takes: no more than four times its size.
-/
namespace Go.Proofs.Ytmoiacijklkfaaa.G
open Go.RowKit Go.Proofs.YtmoiacijklkfaaaW.PrintWords Go.Proofs.YtmoiacijklkfaaaW.PrintLast Go.Proofs.YtmoiacijklkfaaaW.PrintMore
set_option linter.unusedVariables false
set_option linter.unusedSimpArgs false
/-- The program's value of a law's value, n deep. -/
def cVN : Nat → LVal → IVal
  | 0, x => ⟨x.f0, x.f1, x.f2, x.f3, []⟩
  | n + 1, x => ⟨x.f0, x.f1, x.f2, x.f3, x.f4.map (cVN n)⟩
theorem cVN_sm : ∀ (n : Nat) (x : LVal), wfValN n x → SmL n x → SmI n (cVN n x)
  | 0, x, _, h => by rw [SmL] at h; exact h.elim
  | n + 1, x, hw, h => by
    rw [wfValN] at hw
    rw [SmL] at h
    rw [SmI, cVN]
    refine ⟨hw.2.2.1, h.1, h.2.1, by simpa using h.2.2.1, fun y hy => ?_⟩
    obtain ⟨z, hz, rfl⟩ := List.mem_map.1 hy
    exact cVN_sm n z (hw.2.2.2.2.2 z hz) (h.2.2.2 z hz)
/-- The marks of a value's keys and kids. -/
def mcI : Nat → IVal → Nat
  | 0, x => x.f3.length
  | n + 1, x => x.f3.length + (x.f4.map (fun y => 3 + mcI n y)).sum
def mcL : Nat → LVal → Nat
  | 0, x => x.f3.length
  | n + 1, x => x.f3.length + (x.f4.map (fun y => 3 + mcL n y)).sum
theorem mc_c : ∀ (n : Nat) (x : LVal), mcI n (cVN n x) = mcL n x
  | 0, x => rfl
  | n + 1, x => by
    rw [mcL, mcI, cVN]
    simp only [List.map_map]
    congr 2
    refine List.map_congr_left (fun y _ => ?_)
    show 3 + mcI n (cVN n y) = _
    rw [mc_c n y]
theorem mkL_sum {α : Type} (f : α → Int → α × Int) (c : α → Nat) : ∀ (xs : List α), (∀ x ∈ xs, ∀ k, (f x k).2 ≤ k + c x) → ∀ k, (mkL f xs k).2 ≤ k + (xs.map c).sum
  | [], _, k => by simp [mkL]
  | x :: xs, h, k => by
    have h1 := h x (by simp) k
    have h2 := mkL_sum f c xs (fun y hy => h y (by simp [hy])) (f x k).2
    rw [mkL, List.map_cons, List.sum_cons]
    show (mkL f xs (f x k).2).2 ≤ _
    omega
theorem mkV_cnt : ∀ (n : Nat) (x : IVal) (k : Int), (mkV n x k).2 ≤ k + ((3 + mcI n x : Nat) : Int)
  | 0, x, k => by show k ≤ _; omega
  | n + 1, x, k => by
    have h1 := mkS_count x.f3 (k + 3)
    have h2 : (mkL (mkV n) x.f4 (mkL mkS x.f3 (k + 3)).2).2 ≤ (mkL mkS x.f3 (k + 3)).2 + (((x.f4.map (fun y => 3 + mcI n y)).sum : Nat) : Int) := mkL_sum (mkV n) (fun y => 3 + mcI n y) x.f4 (fun y _ k => mkV_cnt n y k) _
    have h3 : mcI (n + 1) x = x.f3.length + (x.f4.map (fun y => 3 + mcI n y)).sum := rfl
    rw [h3]
    show (mkL (mkV n) x.f4 (mkL mkS x.f3 (k + 3)).2).2 ≤ _
    omega
theorem szValue_cnt : ∀ (n : Nat) (x : LVal) (left : Int), wfValN n x → 0 ≤ left → left ≤ 1048576 → ∃ r, Ev (fun k => laws_szValue.f k x.f0 x.f1 x.f2 x.f3 x.f4 left) r ∧ Left left (SmL n x ∧ (mcL n x : Int) ≤ 4 * (left - r)) r
  | 0, x, left, hw, _, _ => by rw [wfValN] at hw; exact hw.elim
  | n + 1, x, left, hw, h0, h1 => by
    rw [wfValN] at hw
    obtain ⟨_, ht, _, hk, hl, hkids⟩ := hw
    unfold wfStr at ht
    have loop : ∀ (d i : Nat) (left : Int), i + d = x.f4.length → 0 ≤ left → left ≤ 1048576 → ∃ r, Ev (fun k => laws_szValueS.l0 k x.f4 left i) r ∧ Left left ((∀ y ∈ x.f4.drop i, SmL n y) ∧ (((x.f4.drop i).map (mcL n)).sum : Int) ≤ 4 * (left - r)) r := by
      intro d
      induction d with
      | zero =>
        intro i left hi h0 h1
        refine ⟨left, Ev.step (fun k => by rw [laws_szValueS.l0]) (ev_if_neg (by omega) (Ev.now _)), .inr ⟨h0, Int.le_refl _, ?_⟩⟩
        rw [List.drop_of_length_le (by omega)]
        exact ⟨fun y hy => (by cases hy), by simp⟩
      | succ d ih =>
        intro i left hid h0 h1
        have hi : i < x.f4.length := by omega
        obtain ⟨r, hr, hL⟩ := szValue_cnt n x.f4[i] left (hkids _ (List.getElem_mem hi)) h0 h1
        rcases hL with hneg | ⟨hp, hle, hs⟩
        · refine ⟨-1, Ev.step (fun k => by rw [laws_szValueS.l0]) (ev_if_pos (by omega) (ev_if_pos (by omega) ?_)), .inl (by omega)⟩
          simp only [rdLV hi]
          exact Ev.bind hr (ev_if_pos hneg (Ev.now _))
        · obtain ⟨r2, hr2, hL2⟩ := ih (i + 1) r (by omega) hp (by omega)
          refine ⟨r2, Ev.step (fun k => by rw [laws_szValueS.l0]) (ev_if_pos (by omega) (ev_if_pos (by omega) ?_)), ?_⟩
          · simp only [rdLV hi, wsucc hi hl]
            exact Ev.bind hr (ev_if_neg (by omega) hr2)
          · rcases hL2 with h | ⟨a, b, c, c2⟩
            · exact .inl h
            · refine .inr ⟨a, by omega, ?_, ?_⟩
              · rw [List.drop_eq_getElem_cons hi]
                intro y hy
                rcases List.mem_cons.1 hy with rfl | hy
                · exact hs.1
                · exact c y hy
              · rw [List.drop_eq_getElem_cons hi, List.map_cons, List.sum_cons]
                have := hs.2
                omega
    have hsum : ((x.f4.map (fun y => 3 + mcL n y)).sum : Nat) = 3 * x.f4.length + (x.f4.map (mcL n)).sum := by
      have : ∀ l : List LVal, ((l.map (fun y => 3 + mcL n y)).sum : Nat) = 3 * l.length + (l.map (mcL n)).sum := by
        intro l
        induction l with
        | nil => simp
        | cons y l ih => rw [List.map_cons, List.sum_cons, ih, List.map_cons, List.sum_cons, List.length_cons]; omega
      exact this _
    by_cases c1 : left - (x.f1.size : Int) < 0
    · exact ⟨-1, Ev.step (fun k => by rw [laws_szValue.f]) (ev_if_pos (by rw [w64 (by omega) (by omega)]; exact c1) (Ev.now _)), .inl (by omega)⟩
    · have hz := szStringS_ev x.f3 (left - (x.f1.size : Int)) ⟨hk.1, hk.2⟩ (by omega) (by omega)
      have hle := szR_le (by omega : 0 ≤ left - (x.f1.size : Int)) (totStrs x.f3)
      by_cases c2 : szR (left - (x.f1.size : Int)) (totStrs x.f3) < 0
      · refine ⟨-1, Ev.step (fun k => by rw [laws_szValue.f]) ?_, .inl (by omega)⟩
        rw [w64 (by omega) (by omega)]
        exact ev_if_neg c1 (Ev.bind hz (ev_if_pos c2 (Ev.now _)))
      · have hsm := strs_small (by omega) (by omega : 0 ≤ szR (left - (x.f1.size : Int)) (totStrs x.f3))
        have hpos := szR_nonneg (by omega : 0 ≤ szR (left - (x.f1.size : Int)) (totStrs x.f3))
        have hqv := szR_pos hpos
        have htl : x.f3.length ≤ totStrs x.f3 := by unfold totStrs; omega
        generalize hq : szR (left - (x.f1.size : Int)) (totStrs x.f3) = q at hz hle c2 hsm hqv
        by_cases c3 : q - (x.f4.length : Int) < 0
        · refine ⟨-1, Ev.step (fun k => by rw [laws_szValue.f]) ?_, .inl (by omega)⟩
          rw [w64 (by omega) (by omega)]
          refine ev_if_neg c1 (Ev.bind hz (ev_if_neg c2 (Ev.bind (a := -1) (Ev.step (fun k => by rw [laws_szValueS.f]) ?_) (ev_if_pos (by omega) (Ev.now _)))))
          rw [w64 (by omega) (by omega)]
          exact ev_if_pos c3 (Ev.now _)
        · obtain ⟨r, hr, hL⟩ := loop x.f4.length 0 (q - (x.f4.length : Int)) (by omega) (by omega) (by omega)
          have hkid : Ev (fun k => laws_szValueS.f k x.f4 q) r := by
            refine Ev.step (fun k => by rw [laws_szValueS.f]) ?_
            rw [w64 (by omega) (by omega)]
            exact ev_if_neg c3 hr
          rcases hL with hneg | ⟨hp, hle2, hs, hs2⟩
          · refine ⟨-1, Ev.step (fun k => by rw [laws_szValue.f]) ?_, .inl (by omega)⟩
            rw [w64 (by omega) (by omega)]
            exact ev_if_neg c1 (Ev.bind hz (ev_if_neg c2 (Ev.bind hkid (ev_if_pos hneg (Ev.now _)))))
          · refine ⟨r, Ev.step (fun k => by rw [laws_szValue.f]) ?_, .inr ⟨hp, by omega, ?_, ?_⟩⟩
            · rw [w64 (by omega) (by omega)]
              exact ev_if_neg c1 (Ev.bind hz (ev_if_neg c2 (Ev.bind hkid (ev_if_neg (by omega) (Ev.now _)))))
            · rw [SmL]
              exact ⟨by omega, hsm, by omega, fun y hy => hs y (by rw [List.drop_zero]; exact hy)⟩
            · rw [mcL, hsum]
              rw [List.drop_zero] at hs2
              omega
end Go.Proofs.Ytmoiacijklkfaaa.G

/- GKObj -/
/-
  Whole structs read, written and boxed as one step, whatever their cells; objects (the program's) as trees whose rows lie apart.
-/
namespace Go.Proofs.Ytmoiacijklkfaaa.G
open Go.RowKit Go.Proofs.YtmoiacijklkfaaaW.PrintWords Go.Proofs.YtmoiacijklkfaaaW.PrintLast Go.Proofs.YtmoiacijklkfaaaW.PrintMore
set_option linter.unusedVariables false
theorem take_set_succ' {α : Type} (ys : List α) (i : Nat) (h : i < ys.length) (a : α) : (ys.set i a).take (i + 1) = ys.take i ++ [a] := by
  rw [List.take_succ_eq_append_getElem (by simpa using h), List.take_set_of_le (Nat.le_refl i), List.getElem_set_self]
section
variable {P : Program} {ops : Array Oper} {rest : List Oper} {op : Oper} {a : Act} {w : World} {Q : Exit → Act → World → Prop}
theorem loadVar_row {ty : TypeId} {ad : Addr} {cs : List Value} {d : TypeDesc} (hc : ∀ j v, cs[j]? = some v → w.cell? (ad.add j) = some v) (hu : P.underlying ty = some d) (hd : d.isRow = true) (hi : (P.info? ty).map (·.size) = some cs.length) :
    (loadVar ty ad).run P w = .ok (.agg cs.toArray) w := by
  have hl : (loadCells ad cs.length).run P w = .ok cs.toArray w := run_loadCells_list (P := P) w ad cs hc
  cases hq : P.info? ty with
  | none => simp [hq] at hi
  | some i =>
    have hs : i.size = cs.length := by simpa [hq] using hi
    have hagg : (isAgg ty).run P w = .ok true w := by
      unfold isAgg
      rw [Sem.run_bind, run_underlying hu w]
      cases d <;> simp_all
    simp [loadVar, Sem.run_bind, hagg, sizeOf, typeInfo, hq, hs, hl]
/-- A struct is loaded, as one. -/
theorem load_event (hgd : op.guard = none) {N : Tmp} (hdst : op.dst = some N) (ty : TypeId) (x : Operand) (ho : op.op = .load ty x) (ad : Addr) (hx : a.eval x = .pointer (some ad)) (cs : List Value) {d : TypeDesc} (hc : ∀ j v, cs[j]? = some v → w.cell? (ad.add j) = some v)
    (hu : P.underlying ty = some d) (hd : d.isRow = true) (hi : (P.info? ty).map (·.size) = some cs.length) (h : wpList P ops Q rest (a.put (some N) (.agg cs.toArray)) w) : wpList P ops Q (op :: rest) a w := by
  refine Kd.event_run (v := .agg cs.toArray) hgd ?_ (by rw [hdst]; exact h)
  unfold execOp
  simp only [ho, hx, Instr.loadAt, Instr.sureAddr, Sem.run_bind, Sem.run_pure, Result.andThen_ok, loadVar_row hc hu hd hi]
end
/-- Cells of a block that is known whole. -/
theorem blk_row {w : World} {g t : Nat} {cs : Array Value} (h : w.heap[g]? = some (.cells cs t (0, 0))) : ∀ j v, cs.toList[j]? = some v → w.cell? ((⟨g, 0, none⟩ : Addr).add j) = some v := fun j v hv => by
  rw [Addr.add_mid, Nat.zero_add, blk_cell h, ← hv, Array.getElem?_toList]
section
variable {P : Program} {ops : Array Oper} {rest : List Oper} {op : Oper} {a : Act} {w : World} {Q : Exit → Act → World → Prop}
/-- A struct is stored into a whole block, as one. -/
theorem store_event (hgd : op.guard = none) (hdst : op.dst = none) {ty : TypeId} {p v : Operand} (ho : op.op = .store ty p v) {g t : Nat} {cur : Array Value} (hg : w.heap[g]? = some (.cells cur t (0, 0))) (hp : a.eval p = .pointer (some ⟨g, 0, none⟩)) {cs : Array Value} (hv : a.eval v = .agg cs)
    (hs : cs.size = cur.size) (hi : (P.info? ty).map (·.size) = some cs.size) (h1 : ∀ u ∈ cs.toList, u.oneCell' = true) (h : ∀ w1 : World, w1.heap[g]? = some (.cells cs t (0, 0)) → w1.heap.size = w.heap.size → (∀ k, k ≠ g → w1.heap[k]? = w.heap[k]?) → (∀ w0 : World, w0.heap.size ≤ g → Below w0.heap.size w0 w → Below w0.heap.size w0 w1) → wpList P ops Q rest a w1) : wpList P ops Q (op :: rest) a w := by
  refine wpList_store_mid hgd ty p v ho g 0 cs hp hv (fun j hj => ?_) hi (Array.all_eq_true_iff_forall_mem.2 (fun u hu => h1 u (by simpa using hu))) ?_
  · rw [Nat.zero_add, blk_cell hg]
    exact ⟨by rw [Array.getElem?_eq_getElem (by omega)]; rfl, blk_frozen hg j⟩
  · have e : a.put op.dst undef = a := by rw [hdst]; rfl
    rw [e]
    obtain ⟨cur2, h2, h2s, h2l⟩ := setCells_row cs.toList 0 w cur hg (by rw [Array.length_toList]; omega)
    obtain ⟨s1, s2, s3, s4⟩ := setCells_same g cs.toList 0 w
    have e2 : cur2 = cs := by
      apply Array.toList_inj.1
      rw [h2l, List.take_zero, List.nil_append, List.drop_of_length_le (by rw [Array.length_toList, Array.length_toList]; omega), List.append_nil]
    refine h _ (by rw [h2, e2]) s4 (fun k hk => setCells_far _ _ k hk) (fun w0 hw0 hB => ?_)
    exact ⟨by rw [s1]; exact hB.os, by rw [s2]; exact hB.tape, by rw [s3]; exact hB.output, by rw [s4]; exact hB.size, fun k hk => by rw [setCells_far _ _ k (by omega)]; exact hB.block k hk⟩
end
theorem sets_all : ∀ (l pre : List Value) (b : Array Value), b.size = pre.length + l.length → b.toList.take pre.length = pre → (l.zipIdx pre.length).foldl (fun (cs : Array Value) (p : Value × Nat) => cs.setIfInBounds (0 + p.2) p.1) b = (pre ++ l).toArray
  | [], pre, b, hs, ht => by
    rw [List.zipIdx_nil, List.foldl_nil, List.append_nil]
    apply Array.toList_inj.1
    rw [← ht, List.take_of_length_le (by rw [Array.length_toList, hs]; simp)]
  | x :: l, pre, b, hs, ht => by
    rw [List.zipIdx_cons, List.foldl_cons]
    have hlt : pre.length < b.toList.length := by
      have h1 : b.toList.length = b.size := Array.length_toList
      rw [List.length_cons] at hs
      omega
    have := sets_all l (pre ++ [x]) (b.setIfInBounds (0 + pre.length) x) (by simp [hs]; omega) (by
      rw [Array.toList_setIfInBounds, List.length_append, List.length_singleton, Nat.zero_add, take_set_succ' _ _ hlt, ht])
    rw [List.length_append, List.length_singleton] at this
    rw [this]; simp
theorem fill_one {sz : Nat} {cs cells : Array Value} (h : cs.size = sz) (hc : cells.size = sz) : Instr.fill (fun i => some (i * sz, sz)) cells [(0, .agg cs)] = some cs := by
  have e : (Value.agg cs).cells = cs := rfl
  simp only [Instr.fill, e, Nat.zero_mul, Nat.zero_add, h, hc]
  rw [if_neg (by simp)]
  congr 1
  have := sets_all cs.toList [] cells (by simp [h, hc]) (by simp)
  simp only [List.length_nil, List.nil_append, Array.toArray_toList] at this
  rw [← Array.foldl_toList, Array.toList_zipIdx]
  simpa using this
section
variable {P : Program} {ops : Array Oper} {rest : List Oper} {op : Oper} {a : Act} {w : World} {Q : Exit → Act → World → Prop}
/-- '[]T{x}', x a struct whatever its cells. -/
theorem build1_event (hgd : op.guard = none) {N : Tmp} (hdst : op.dst = some N) {ty e : TypeId} {x : Operand} (ho : op.op = .buildSlice ty 1 #[(0, x)]) {cs : Array Value} (hx : a.eval x = .agg cs) (hu : P.underlying ty = some (.slice e)) {z : Value} {sz bytes : Nat} (hinfo : (P.info? e).map (fun i => (i.zero, i.size, i.bytes)) = some (some z, sz, bytes))
    (hcs : cs.size = sz) (h0 : 0 < sz) (h1 : sz ≤ 1000) (h : wpList P ops Q rest (a.put (some N) (.slice (some ⟨w.heap.size, 0, none⟩) 1 1)) (w.alloc (.cells cs e))) : wpList P ops Q (op :: rest) a w := by
  refine Kd.event_run (v := .slice (some ⟨w.heap.size, 0, none⟩) 1 1) (w1 := w.alloc (.cells cs e)) hgd ?_ (by rw [hdst]; exact h)
  cases hq : P.info? e with
  | none => rw [hq] at hinfo; cases hinfo
  | some i =>
    rw [hq] at hinfo
    simp only [Option.map_some, Option.some.injEq, Prod.mk.injEq] at hinfo
    obtain ⟨hz, hsz, _⟩ := hinfo
    have hn : ¬ (16777216 < i.size) := by omega
    have hn0 : ¬ (i.size = 0) := by omega
    have hf : Instr.fill (fun j => some (j * i.size, i.size)) ((Array.range i.size).map (fun x => z.cells[x % z.cells.size]!)) [(0, Value.agg cs)] = some cs := fill_one (by rw [hcs, hsz]) (by simp)
    unfold execOp
    simp only [ho]
    simp [Instr.buildSlice, Sem.run_bind, run_underlying hu w, sizeOf, typeInfo, hq, zeroValue, hz, hn, hn0, hx, hf, newRow, newObj]
    rfl
end
theorem blk_row' {w : World} {g t : Nat} {cs : List Value} (h : w.heap[g]? = some (.cells cs.toArray t (0, 0))) : ∀ j v, cs[j]? = some v → w.cell? ((⟨g, 0, none⟩ : Addr).add j) = some v := fun j v hv => blk_row h j v (by simpa using hv)
theorem add_add (a : Addr) (x y : Nat) : (a.add x).add y = a.add (x + y) := by
  unfold Addr.add
  by_cases h1 : x = 0 <;> by_cases h2 : y = 0 <;> simp [h1, h2, Nat.add_assoc]
/-- An element of a row that is read: its cells, as one. -/
theorem row_at {α : Type} {d : Kd α} {w : World} {A : Option Addr} {n : Nat} {xs : List α} (h : Kd.C d w A n xs) (i : Nat) (hi : i < xs.length) : ∃ ad cs, A = some ad ∧ cs.length = d.sz ∧ d.K w xs[i] cs ∧ ∀ W, Below w.heap.size w W → ∀ j v, cs[j]? = some v → W.cell? ((ad.add (i * d.sz)).add j) = some v := by
  have hn := h.1
  obtain ⟨ad, cs, e, hl, hK, hc⟩ := Kd.C_get h xs[i] (i : Int) (by omega) (by omega)
  simp only [Int.toNat_natCast, getD_at hi] at hK hc
  exact ⟨ad, cs, e, hl, hK, fun W hW j v hv => by rw [add_add]; exact pw_cell_below hW (hc j v hv)⟩
theorem below_cells {w0 w : World} {b g : Nat} (h : Below b w0 w) (hg : b ≤ g) (o : Nat) (cs : List Value) : Below b w0 (w.setCells g o cs) := by
  obtain ⟨s1, s2, s3, s4⟩ := setCells_same g cs o w
  exact ⟨by rw [s1]; exact h.os, by rw [s2]; exact h.tape, by rw [s3]; exact h.output, by rw [s4]; exact h.size, fun k hk => by rw [setCells_far _ _ k (by omega)]; exact h.block k hk⟩
section
variable {P : Program} {ops : Array Oper} {rest : List Oper} {op : Oper} {a : Act} {w : World} {Q : Exit → Act → World → Prop}
/-- A struct is stored into a row, as one. -/
theorem store_mid (hgd : op.guard = none) (hdst : op.dst = none) {ty : TypeId} {p v : Operand} (ho : op.op = .store ty p v) {g o : Nat} (hp : a.eval p = .pointer (some ⟨g, o, none⟩)) {cs : Array Value} (hv : a.eval v = .agg cs)
    (ht : ∀ j, j < cs.size → (w.cell? ⟨g, o + j, none⟩).isSome = true ∧ w.frozen? ⟨g, o + j, none⟩ = false) (hi : (P.info? ty).map (·.size) = some cs.size) (h1 : ∀ u ∈ cs.toList, u.oneCell' = true) (h : wpList P ops Q rest a (w.setCells g o cs.toList)) : wpList P ops Q (op :: rest) a w := by
  refine wpList_store_mid hgd ty p v ho g o cs hp hv ht hi (Array.all_eq_true_iff_forall_mem.2 (fun u hu => h1 u (by simpa using hu))) ?_
  have e : a.put op.dst undef = a := by rw [hdst]; rfl
  rw [e]; exact h
end
end Go.Proofs.Ytmoiacijklkfaaa.G

/- GKObjT -/
/-
  Objects (the program's) as trees whose rows lie apart.
-/
namespace Go.Proofs.Ytmoiacijklkfaaa.G
open Go.RowKit Go.Proofs.YtmoiacijklkfaaaW.PrintWords Go.Proofs.YtmoiacijklkfaaaW.PrintLast Go.Proofs.YtmoiacijklkfaaaW.PrintMore
set_option linter.unusedVariables false
abbrev IObj := S46
/-- An object whose values are n deep at most. -/
def tO (n : Nat) : Td IObj := Td.iso (Td.pair (Td.int .i64) (Td.pair Td.string (Td.pair (Td.int .i64) (Td.pair (Td.int .i64) (Td.pair (Td.int .i64) (Td.pair Td.bool (Td.pair (Td.slice 9 Td.string) (Td.pair (tV n) (tV n))))))))) (fun x => (x.f0, x.f1, x.f2, x.f3, x.f4, x.f5, x.f6, x.f7, x.f8))
section
variable {n : Nat} {w : World} {x : IObj} {cs : List Value} {fp : List Nat}
theorem tO_sz : (tO n).sz = 17 := by
  show 1 + (1 + (1 + (1 + (1 + (1 + (1 + ((tV n).sz + (tV n).sz))))))) = 17
  rw [tV_sz]
theorem tO_open (h : (tO n).T w x cs fp) : ∃ v6 c7 c8 f6 f7 f8, cs = [.int .i64 x.f0, .string x.f1, .int .i64 x.f2, .int .i64 x.f3, .int .i64 x.f4, .bool x.f5, v6] ++ (c7 ++ c8) ∧ fp = f6 ++ (f7 ++ f8) ∧ Td.string.Row 9 w v6 x.f6 f6 ∧ (tV n).T w x.f7 c7 f7 ∧ (tV n).T w x.f8 c8 f8 := by
  obtain ⟨_, _, _, q0, e0, p0, ⟨rfl, rfl⟩, _, _, _, q1, e1, p1, ⟨rfl, rfl⟩, _, _, _, q2, e2, p2, ⟨rfl, rfl⟩, _, _, _, q3, e3, p3, ⟨rfl, rfl⟩, _, _, _, q4, e4, p4, ⟨rfl, rfl⟩, _, _, _, q5, e5, p5, ⟨rfl, rfl⟩, _, _, f6, q6, e6, p6, ⟨v6, rfl, h6⟩, c7, c8, f7, f8, e7, p7, h7, h8⟩ := h
  exact ⟨v6, c7, c8, f6, f7, f8, by rw [e0, e1, e2, e3, e4, e5, e6, e7]; rfl, by rw [p0, p1, p2, p3, p4, p5, p6, p7]; rfl, h6, h7, h8⟩
theorem tO_mk {v6 : Value} {c7 c8 : List Value} {f6 f7 f8 : List Nat} (h6 : Td.string.Row 9 w v6 x.f6 f6) (h7 : (tV n).T w x.f7 c7 f7) (h8 : (tV n).T w x.f8 c8 f8) : (tO n).T w x ([.int .i64 x.f0, .string x.f1, .int .i64 x.f2, .int .i64 x.f3, .int .i64 x.f4, .bool x.f5, v6] ++ (c7 ++ c8)) (f6 ++ (f7 ++ f8)) :=
  ⟨[_], _, [], _, rfl, rfl, ⟨rfl, rfl⟩, [_], _, [], _, rfl, rfl, ⟨rfl, rfl⟩, [_], _, [], _, rfl, rfl, ⟨rfl, rfl⟩, [_], _, [], _, rfl, rfl, ⟨rfl, rfl⟩, [_], _, [], _, rfl, rfl, ⟨rfl, rfl⟩, [_], _, [], _, rfl, rfl, ⟨rfl, rfl⟩, [_], _, _, _, rfl, rfl, ⟨v6, rfl, h6⟩, c7, c8, f7, f8, rfl, rfl, h7, h8⟩
theorem tO_K (h : (tO n).T w x cs fp) : k46.K w x cs := by
  obtain ⟨v6, c7, c8, f6, f7, f8, rfl, rfl, h6, h7, h8⟩ := tO_open h
  obtain ⟨A6, a6, rfl, l6, g6⟩ := str_C h6
  exact ⟨[_], _, rfl, rfl, [_], _, rfl, rfl, [_], _, rfl, rfl, [_], _, rfl, rfl, [_], _, rfl, rfl, [_], _, rfl, rfl, [_], _, rfl, ⟨A6, a6, rfl, l6, g6⟩, _, _, rfl, tV_K h7, tV_K h8⟩
theorem tO_C {e : Nat} {v : Value} {xs : List IObj} (h : (tO n).Row e w v xs fp) : ∃ A c, v = .slice A xs.length c ∧ xs.length ≤ c ∧ Kd.C k46 w A xs.length xs :=
  Td.Row_C (d := k46) tO_sz.symm (fun _ _ _ h => tO_K h) h
end
end Go.Proofs.Ytmoiacijklkfaaa.G

/- GKOps -/
/-
  Trees in memory: a row read with a base, an element appended, an element stored, a row made.
-/
namespace Go.Proofs.Ytmoiacijklkfaaa.G
open Go.RowKit Go.Proofs.YtmoiacijklkfaaaW.PrintWords Go.Proofs.YtmoiacijklkfaaaW.PrintLast Go.Proofs.YtmoiacijklkfaaaW.PrintMore
set_option linter.unusedVariables false
namespace Td
section
variable {α : Type} {t : Td α} {e b : Nat} {w w1 : World} {v : Value} {xs : List α} {fp : List Nat} {ok : Nat → Prop} {ps : List (α × List Nat)}
theorem Row_base (h : t.Row e w v xs fp) (hb : ∀ k ∈ fp, b ≤ k) : ∃ ps : List (α × List Nat), ps.map (·.1) = xs ∧ foot v ps = fp ∧ t.kd.R e w b (fun k => k ∈ fp) v ps := by
  obtain ⟨ps, h1, h2, h0, inner, ho, hr⟩ := h
  refine ⟨ps, h1, h2, h0, inner, ⟨ho.1, ?_⟩, hr.imp_ (fun x c hx => ⟨hx.1, fun k hk => ⟨(hx.2 k hk).1, hb k (hx.2 k hk).1.1⟩⟩)⟩
  rcases ho.2 with h | ⟨g, cap, cur, hv, _, hh, a1, a2, a3, a4⟩
  · exact .inl h
  · exact .inr ⟨g, cap, cur, hv, hb g (h0 g (by rw [hv]; rfl)), hh, a1, a2, a3, a4⟩
theorem Row_of (h : t.kd.R e w b ok v ps) : t.Row e w v (ps.map (·.1)) (foot v ps) := by
  obtain ⟨h0, inner, ho, hr⟩ := h
  refine ⟨ps, rfl, rfl, fun k hk => List.mem_append_left _ (by rw [hk]; simp), inner, own_weaken ho (Nat.zero_le _), hr.1, fun j p hj => ?_⟩
  obtain ⟨q1, q2⟩ := hr.2 j p hj
  refine ⟨q1, fun k hk => ⟨⟨List.mem_append_right _ (List.mem_flatMap.2 ⟨p, List.mem_of_getElem? hj, hk⟩), (q2 k hk).1.2⟩, Nat.zero_le _⟩⟩
theorem foot_ok (h : t.kd.R e w b ok v ps) : ∀ k ∈ foot v ps, ok k := by
  intro k hk
  obtain ⟨h0, inner, ho, hr⟩ := h
  rcases List.mem_append.1 hk with hk | hk
  · exact h0 k (by simpa using hk)
  · obtain ⟨p, hp, hk⟩ := List.mem_flatMap.1 hk
    obtain ⟨j, hj, rfl⟩ := List.getElem_of_mem hp
    exact ((hr.2 j _ (List.getElem?_eq_getElem hj)).2 k hk).1.1
theorem foot_app (v : Value) (ps qs : List (α × List Nat)) : foot v (ps ++ qs) = v.ownBlock.toList ++ (ps.flatMap (·.2) ++ qs.flatMap (·.2)) := by
  unfold foot; rw [List.flatMap_append]
end
/-! #### append -/
section
variable {P : Program} {ops : Array Oper} {rest : List Oper} {o : Oper} {a : Act} {Q : Exit → Act → World → Prop} {α : Type}
theorem Row_append (t : Td α) {w0 W : World} (hgd : o.guard = none) (s x : Operand) (ty e : TypeId) (z : Value) (bytes : Nat)
    (ho : o.op = .call { callee := .builtin .append, args := #[s, x], argTypes := #[ty, ty] })
    (ht : P.underlying ty = some (.slice e)) (hinfo : (P.info? e).map (fun i => (i.zero, i.size, i.bytes)) = some (some z, t.sz, bytes)) (hz : z.cells.size = t.sz) (hs0 : 0 < t.sz) (hb0 : 0 < bytes)
    (v : Value) (xs : List α) (p : α) (cs : List Value) (fp f : List Nat) (hs : a.eval s = v) (hx : a.eval x = .slice (some ⟨W.heap.size, 0, none⟩) 1 1) (hp : t.T W p cs f) (hfn : f.Nodup) (hfb : ∀ k ∈ f, w0.heap.size ≤ k) (hfd : ∀ k ∈ f, k ∉ fp)
    (HO : t.Row e W v xs fp) (hn : fp.Nodup) (hb : ∀ k ∈ fp, w0.heap.size ≤ k) (HB : Below w0.heap.size w0 W) (hl : (xs.length + 1) * bytes ≤ 140737488355328)
    (h : ∀ v1 w1 fp1, t.Row e w1 v1 (xs ++ [p]) fp1 → fp1.Nodup → (∀ k ∈ fp1, k ∈ fp ∨ k ∈ f ∨ W.heap.size ≤ k) → Below w0.heap.size w0 w1 → W.grownBy w1 v.ownBlock → wpList P ops Q rest (a.put o.dst v1) w1) :
    wpList P ops Q (o :: rest) a (W.alloc (.cells cs.toArray e)) := by
  obtain ⟨ps, h1, h2, hR⟩ := Row_base HO hb
  have hown : ∀ k, v.ownBlock = some k → k ∈ fp := fun k hk => hR.1 k hk
  have hplen : ps.length = xs.length := by rw [← h1, List.length_map]
  refine Kd.R_append t.kd w0.heap.size hgd s x ty e z bytes ho ht hinfo hz hs0 hb0 v ps (p, f) cs (fun k => k ∈ fp ∨ k ∈ f ∨ W.heap.size ≤ k) (fun k => k ∈ f) hs hx ⟨hp, fun k hk => ⟨hk, hfb k hk⟩⟩
    (fun k hk => ⟨.inr (.inl hk), fun e_ => hfd k hk (hown k e_.symm)⟩) (fun k hk => .inr (.inr hk)) (Kd.R_mono hR (fun k hk => .inl hk)) HB HB.size (by rw [hplen]; exact hl) ?_
  intro v1 w1 hR1 hB1 hg hat
  have hrow := Row_of hR1
  rw [List.map_append, h1] at hrow
  refine h v1 w1 _ hrow ?_ (foot_ok hR1) hB1 hg
  rw [foot_app]
  have hfp : fp = v.ownBlock.toList ++ ps.flatMap (·.2) := h2.symm
  have hnd := hn
  rw [hfp, List.nodup_append] at hnd
  obtain ⟨n1, n2, n3⟩ := hnd
  have hin : ∀ k ∈ ps.flatMap (·.2), k ∈ fp := fun k hk => by rw [hfp]; exact List.mem_append_right _ hk
  have hlt : ∀ k ∈ fp, k < W.heap.size := Row_lt HO
  have hflt : ∀ k ∈ f, k < W.heap.size := t.T_lt hp
  rw [List.nodup_append]
  refine ⟨by cases v1.ownBlock <;> simp, ?_, ?_⟩
  · rw [List.nodup_append]
    refine ⟨n2, by simpa using hfn, fun x hx y hy hxy => ?_⟩
    subst hxy
    have hy' : x ∈ f := by simpa using hy
    exact hfd x hy' (hin x hx)
  · intro x hx y hy hxy
    subst hxy
    have hx' : v1.ownBlock = some x := by simpa using hx
    rcases hat with he | ⟨g, hg1, hge⟩
    · have hxf : x ∈ fp := hown x (by rw [← he]; exact hx')
      rcases List.mem_append.1 hy with hy | hy
      · exact n3 x (by rw [← he, hx']; simp) x hy rfl
      · exact hfd x (by simpa using hy) hxf
    · rw [hx'] at hg1
      obtain rfl := Option.some.inj hg1
      rcases List.mem_append.1 hy with hy | hy
      · have := hlt x (hin x hy); omega
      · have := hflt x (by simpa using hy); omega
end
/-! #### an element stored, with blocks of its own -/
section
variable {α : Type} {t : Td α} {e : Nat} {w : World} {v : Value} {xs : List α} {fp : List Nat}
theorem set_flat_nodup (L : List (List Nat)) (h : L.flatten.Nodup) (i : Nat) (f : List Nat) (hf : f.Nodup) (hd : ∀ k ∈ f, k ∉ L.flatten) : (L.set i f).flatten.Nodup := by
  unfold List.Nodup at h ⊢
  rw [List.pairwise_flatten] at h ⊢
  obtain ⟨h1, h2⟩ := h
  refine ⟨fun l hl => ?_, List.pairwise_iff_getElem.2 (fun a b ha hb hab => ?_)⟩
  · rcases List.mem_or_eq_of_mem_set hl with h | h
    · exact h1 l h
    · rw [h]; exact hf
  · rw [List.length_set] at ha hb
    have hin : ∀ q (hq : q < L.length) k, k ∈ L[q] → k ∈ L.flatten := fun q hq k hk => List.mem_flatten.2 ⟨_, List.getElem_mem hq, hk⟩
    intro x hx y hy hxy
    subst hxy
    rw [List.getElem_set] at hx hy
    by_cases ea : i = a
    · rw [if_pos ea] at hx
      rw [if_neg (by omega)] at hy
      exact hd x hx (hin b hb x hy)
    · rw [if_neg ea] at hx
      by_cases eb : i = b
      · rw [if_pos eb] at hy
        exact hd x hy (hin a ha x hx)
      · rw [if_neg eb] at hy
        exact List.pairwise_iff_getElem.1 h2 a b ha hb hab x hx x hy rfl
theorem set_flat_mem (L : List (List Nat)) (i : Nat) (f : List Nat) : ∀ k ∈ (L.set i f).flatten, k ∈ L.flatten ∨ k ∈ f := by
  intro k hk
  obtain ⟨l, hl, hk⟩ := List.mem_flatten.1 hk
  rcases List.mem_or_eq_of_mem_set hl with h | h
  · exact .inl (List.mem_flatten.2 ⟨l, h, hk⟩)
  · rw [h] at hk; exact .inr hk
theorem Row_put (h : t.Row e w v xs fp) (hn : fp.Nodup) {i : Nat} (hi : i < xs.length) {x' : α} {cs' : List Value} {f' : List Nat} (hT : t.T w x' cs' f') (hfn : f'.Nodup) (hfd : ∀ k ∈ f', k ∉ fp) :
    ∃ (g cap : Nat) (cs : List Value) (fp' : List Nat), v = .slice (some ⟨g, 0, none⟩) xs.length cap ∧ cs.length = t.sz ∧ (∀ j u, cs[j]? = some u → w.cell? ⟨g, i * t.sz + j, none⟩ = some u) ∧ (∀ j, w.frozen? ⟨g, j, none⟩ = false) ∧ g ∈ fp ∧ g < w.heap.size ∧
      t.Row e (w.setCells g (i * t.sz) cs') v (xs.set i x') fp' ∧ fp'.Nodup ∧ (∀ k ∈ fp', k ∈ fp ∨ k ∈ f') := by
  obtain ⟨ps, rfl, hf, hR⟩ := h
  have hip : i < ps.length := by simpa using hi
  obtain ⟨g, cap, cs, f, hv, _, hTi, hcell, hfz, hg, hgf, _, _, hlt, _, _⟩ := Row_at (⟨ps, rfl, hf, hR⟩ : t.Row e w v (ps.map (·.1)) fp) hn hi
  subst hv
  have hl' : (ps.map (·.1)).length = ps.length := List.length_map ..
  rw [hl'] at hR ⊢
  have hcl' := t.T_len hT
  have hM : t.kd.M w 0 (fun k => k ∈ f') (x', f') (cs.take 0 ++ cs' ++ cs.drop (0 + cs'.length)) := by
    rw [List.take_zero, List.nil_append, List.drop_of_length_le (by rw [t.T_len hTi, hcl']; omega), List.append_nil]
    exact ⟨hT, fun k hk => ⟨hk, Nat.zero_le _⟩⟩
  have hR0 : t.kd.R e w 0 (fun k => k ∈ fp ∨ k ∈ f') (.slice (some ⟨g, 0, none⟩) ps.length cap) ps := Kd.R_mono hR (fun k hk => .inl hk)
  have hs := (Kd.R_seg (d := t.kd) hR0 (i : Int) (by omega) (by omega) (c := cs) (seg := cs') (j := 0) (t.T_len hTi) (fun j u hu => hcell j u hu) (by show 0 + cs'.length ≤ t.sz; omega) hM (fun k hk => ⟨.inr hk, fun e_ => hfd k hk (e_ ▸ hg)⟩)).1
  have hrow := Row_of hs
  simp only [Int.toNat_natCast, List.map_set] at hrow
  have hsz : t.kd.sz = t.sz := rfl
  rw [hsz, Nat.add_zero] at hrow
  have hfoot : fp = g :: (ps.map (·.2)).flatten := by rw [← hf, ← flatMap_eq]; rfl
  have hfoot' : foot (.slice (some ⟨g, 0, none⟩) ps.length cap) (ps.set i (x', f')) = g :: ((ps.map (·.2)).set i f').flatten := by
    unfold foot
    rw [flatMap_eq, List.map_set]; rfl
  rw [hfoot'] at hrow
  rw [hfoot, List.nodup_cons] at hn
  have hdis : ∀ k ∈ f', k ∉ (ps.map (·.2)).flatten := fun k hk hm => hfd k hk (by rw [hfoot]; exact List.mem_cons_of_mem _ hm)
  refine ⟨g, cap, cs, _, rfl, t.T_len hTi, hcell, hfz, hg, hlt, hrow, ?_, ?_⟩
  · rw [List.nodup_cons]
    refine ⟨fun hm => ?_, set_flat_nodup _ hn.2 i f' hfn hdis⟩
    rcases set_flat_mem _ _ _ _ hm with h | h
    · exact hn.1 h
    · exact hfd g h hg
  · intro k hk
    rcases List.mem_cons.1 hk with rfl | hk
    · exact .inl hg
    · rcases set_flat_mem _ _ _ _ hk with h | h
      · exact .inl (by rw [hfoot]; exact List.mem_cons_of_mem _ h)
      · exact .inr h
end
/-! #### a row made of zeros; an empty literal -/
section
variable {P : Program} {ops : Array Oper} {rest : List Oper} {o : Oper} {a : Act} {Q : Exit → Act → World → Prop} {α : Type}
theorem flat_nils {β : Type} (n : Nat) (z : α) : (List.replicate n (z, ([] : List β))).flatMap (·.2) = [] := by
  induction n with
  | zero => rfl
  | succ n ih => rw [List.replicate_succ, List.flatMap_cons, ih]; rfl
theorem Row_make (t : Td α) {w0 W : World} (e : Nat) (hgd : o.guard = none) {N : Tmp} (hd : o.dst = some N) (ty : TypeId) (x y : Operand) (ho : o.op = .makeSlice ty x y) (n : Int) (hx : a.eval x = .int .i64 n) (hy : a.eval y = .int .i64 n)
    (ht : P.underlying ty = some (.slice e)) (z : Value) (bytes : Nat) (hinfo : (P.info? e).map (fun i => (i.zero, i.size, i.bytes)) = some (some z, t.sz, bytes)) (hz : z.cells.size = t.sz) (hs0 : 0 < t.sz) (hb0 : 0 < bytes)
    (z0 : α) (hzero : t.T W z0 z.cells.toList []) (h0 : 0 ≤ n) (hl : n.toNat * bytes ≤ 281474976710656) (HB : Below w0.heap.size w0 W)
    (h : ∀ v1 w1 fp, t.Row e w1 v1 (List.replicate n.toNat z0) fp → fp.Nodup → (∀ k ∈ fp, W.heap.size ≤ k) → Below w0.heap.size w0 w1 → W.grownBy w1 none → wpList P ops Q rest (a.put o.dst v1) w1) : wpList P ops Q (o :: rest) a W := by
  refine Kd.R_make t.kd w0.heap.size e hgd hd ty x y ho n hx hy ht z bytes hinfo hz hs0 hb0 (z0, []) (ok := fun k => W.heap.size ≤ k) (okp := fun _ => False) ⟨hzero, fun k hk => by cases hk⟩ (fun _ hk => hk.elim) (Nat.le_refl _) h0 hl HB HB.size ?_
  intro v1 w1 hR hB hg hnew
  have hrow := Row_of hR
  rw [List.map_replicate] at hrow
  have hfoot : foot v1 (List.replicate n.toNat (z0, ([] : List Nat))) = v1.ownBlock.toList := by unfold foot; rw [flat_nils, List.append_nil]
  rw [hfoot] at hrow
  have hok := foot_ok hR
  rw [hfoot] at hok
  exact h v1 w1 _ hrow (by cases v1.ownBlock <;> simp) hok hB hg
theorem Row_lit0 (t : Td α) {w0 W : World} (e : Nat) (hgd : o.guard = none) {N : Tmp} (hd : o.dst = some N)
    (hrun : (execOp a.eval o).run P W = .ok (.value (.slice (some ⟨W.heap.size, 0, none⟩) 0 0)) (W.alloc (.cells #[] e))) (HB : Below w0.heap.size w0 W)
    (h : ∀ v1 w1 fp, t.Row e w1 v1 ([] : List α) fp → fp.Nodup → (∀ k ∈ fp, W.heap.size ≤ k) → Below w0.heap.size w0 w1 → W.grownBy w1 none → wpList P ops Q rest (a.put o.dst v1) w1) : wpList P ops Q (o :: rest) a W := by
  refine Kd.R_lit t.kd (w0 := w0) w0.heap.size e hgd hd (xs := ([] : List (α × List Nat))) (inner := []) (ok := fun k => W.heap.size ≤ k) (okp := fun _ => False) hrun (Reps.none _ _) (fun _ hk => hk.elim) (Nat.le_refl _) HB HB.size (by simp) ?_
  intro v1 w1 hR hB hg hnew
  have hrow := Row_of hR
  have hfoot : foot v1 ([] : List (α × List Nat)) = v1.ownBlock.toList := by unfold foot; simp
  rw [hfoot] at hrow
  have hok := foot_ok hR
  rw [hfoot] at hok
  exact h v1 w1 _ hrow (by cases v1.ownBlock <;> simp) hok hB hg
end
end Td
end Go.Proofs.Ytmoiacijklkfaaa.G
