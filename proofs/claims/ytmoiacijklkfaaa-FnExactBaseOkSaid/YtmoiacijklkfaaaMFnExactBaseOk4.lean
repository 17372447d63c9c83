import Derived.Test.YtmoiacijklkfaaaMFnExactBaseOk1
import Derived.Test.YtmoiacijklkfaaaMFnExactBaseOk2
import Derived.Test.YtmoiacijklkfaaaMFnExactBaseOk3
import Derived.Deep.MidRow
/- PValue -/
/-
  Values: sizes, copies, equality. A value's depth is bounded: what is small is small n deep.
-/
namespace Go.Proofs.Ytmoiacijklkfaaa.G
open Go.RowKit Go.Proofs.YtmoiacijklkfaaaW.PrintWords Go.Proofs.YtmoiacijklkfaaaW.PrintLast Go.Proofs.YtmoiacijklkfaaaW.PrintMore
set_option linter.unusedVariables false
set_option linter.unusedSimpArgs false
abbrev LVal := S67
abbrev IVal := S44
theorem rdLV {xs : List LVal} {i : Nat} (h : i < xs.length) : rd_T67 xs (i : Int) = xs[i] := by unfold rd_T67; rw [Int.toNat_natCast]; exact getD_at h _
theorem rdIV {xs : List IVal} {i : Nat} (h : i < xs.length) : rd_T44 xs (i : Int) = xs[i] := by unfold rd_T44; rw [Int.toNat_natCast]; exact getD_at h _
/-- Small, n deep: a value of the law's own .. -/
def SmL : Nat → LVal → Prop
  | 0, _ => False
  | n + 1, x => x.f1.size ≤ 1048576 ∧ (x.f3.length ≤ 1048576 ∧ ∀ y ∈ x.f3, y.size ≤ 1048576) ∧ (x.f4.length ≤ 1048576 ∧ ∀ y ∈ x.f4, SmL n y)
/-- .. and of the program's. -/
def SmI : Nat → IVal → Prop
  | 0, _ => False
  | n + 1, x => (-9223372036854775808 ≤ x.f2 ∧ x.f2 ≤ 9223372036854775807) ∧ x.f1.size ≤ 1048576 ∧ (x.f3.length ≤ 1048576 ∧ ∀ y ∈ x.f3, y.size ≤ 1048576) ∧ (x.f4.length ≤ 1048576 ∧ ∀ y ∈ x.f4, SmI n y)
theorem wfStrs_of {x : List ByteArray} (h : x.length ≤ 1048576 ∧ ∀ y ∈ x, y.size ≤ 1048576) : wfStrs x := ⟨by have := h.1; omega, fun y hy => by have := h.2 y hy; omega⟩
theorem strs_small {xs : List ByteArray} {left : Int} (h1 : left ≤ 1048576) (h : 0 ≤ szR left (totStrs xs)) : xs.length ≤ 1048576 ∧ ∀ y ∈ xs, y.size ≤ 1048576 := by
  have h := szR_nonneg h
  unfold totStrs at h
  refine ⟨by omega, fun y hy => ?_⟩
  have := le_sum_map ByteArray.size hy
  omega
/-- What is left, or less than nothing. -/
def Left (left : Int) (P : Prop) (r : Int) : Prop := (r < 0) ∨ (0 ≤ r ∧ r ≤ left ∧ P)
theorem eqValue_ev : ∀ (n : Nat) (x : IVal), SmI n x → Ev (fun k => laws_eqValue.f k x.f0 x.f1 x.f2 x.f3 x.f4 x.f0 x.f1 x.f2 x.f3 x.f4) true
  | 0, x, h => by rw [SmI] at h; exact h.elim
  | n + 1, x, h => by
    rw [SmI] at h
    obtain ⟨_, _, hk, hl, hs⟩ := h
    have kid : Ev (fun k => laws_eqValueS.f k x.f4 x.f4) true := by
      refine Ev.step (fun k => by rw [laws_eqValueS.f]) (ev_if_pos (by first | trivial | rfl) ?_)
      have := loop_all (g := fun k i => laws_eqValueS.l0 k x.f4 x.f4 i) x.f4.length (fun _ => true) true (fun i hi _ r hr => ?_) (fun i hi h => by cases h) (Ev.step (fun k => by rw [laws_eqValueS.l0]) (ev_if_neg (by omega) (Ev.now _)))
      · rw [allN_true.2 (fun _ _ => rfl)] at this; exact this
      · refine Ev.step (fun k => by rw [laws_eqValueS.l0]) ?_
        simp only [wsucc hi (by omega : x.f4.length ≤ 9223372036854775807)]
        refine ev_if_pos (by omega) (ev_if_pos (by omega) (ev_if_pos (by omega) ?_))
        have e := eqValue_ev n x.f4[i] (hs _ (List.getElem_mem hi))
        rw [rdIV hi]
        exact Ev.bind e (ev_if_pos (by first | trivial | rfl) hr)
    refine Ev.step (fun k => by rw [laws_eqValue.f]) (ev_if_pos rfl (ev_if_pos rfl (ev_if_pos rfl (Ev.bind (eqStringS_ev _ (by have := hk.1; omega)) ?_))))
    exact ev_if_pos rfl (Ev.bind kid (ev_if_pos rfl (Ev.now _)))
end Go.Proofs.Ytmoiacijklkfaaa.G

/- GKTree -/
/-
  Trees in memory whose rows lie apart: with each goes the list of its blocks ('fp').
-/
namespace Go.Proofs.Ytmoiacijklkfaaa.G
open Go.RowKit Go.Proofs.YtmoiacijklkfaaaW.PrintWords Go.Proofs.YtmoiacijklkfaaaW.PrintLast Go.Proofs.YtmoiacijklkfaaaW.PrintMore
set_option linter.unusedVariables false

/-- What an element's cells say, and which blocks it leads to. -/
structure Td (α : Type) where
  sz : Nat
  E : List Nat
  T : World → α → List Value → List Nat → Prop
  T_len : ∀ {w x cs fp}, T w x cs fp → cs.length = sz
  T_one : ∀ {w x cs fp}, T w x cs fp → ∀ u ∈ cs, u.oneCell' = true
  T_typed : ∀ {w : World} {x cs fp}, T w x cs fp → ∀ k ∈ fp, ∃ q, q ∈ E ∧ ∃ cells, w.heap[k]? = some (.cells cells q (0, 0))
  T_move : ∀ {w w1 : World} {x cs fp}, (∀ k ∈ fp, w1.heap[k]? = w.heap[k]?) → T w x cs fp → T w1 x cs fp
namespace Td
variable {α β : Type}
theorem T_lt (t : Td α) {w : World} {x : α} {cs : List Value} {fp : List Nat} (h : t.T w x cs fp) : ∀ k ∈ fp, k < w.heap.size := fun k hk => by
  obtain ⟨q, _, cells, hc⟩ := t.T_typed h k hk
  exact blk_lt hc
/-- The same as a kind: elements with their blocks. -/
def kd (t : Td α) : Kd (α × List Nat) where
  sz := t.sz
  E := t.E
  K := fun w x cs => t.T w x.1 cs x.2
  M := fun w base ok x cs => t.T w x.1 cs x.2 ∧ ∀ k ∈ x.2, ok k ∧ base ≤ k
  K_len := fun h => t.T_len h
  K_one := fun h => t.T_one h
  K_below := fun hb h => t.T_move (fun k hk => hb.block k (t.T_lt h k hk)) h
  K_of_M := fun h => h.1
  M_mono := fun hok h => ⟨h.1, fun k hk => ⟨hok k (h.2 k hk).1, (h.2 k hk).2⟩⟩
  M_bound := fun h => ⟨h.1, fun k hk => ⟨⟨(h.2 k hk).1, (h.2 k hk).2, t.T_lt h.1 k hk, t.T_typed h.1 k hk⟩, (h.2 k hk).2⟩⟩
  M_move := fun hm h => ⟨t.T_move (fun k hk => hm k (h.2 k hk).1) h.1, h.2⟩
  M_lower := fun hb h => ⟨h.1, fun k hk => ⟨(h.2 k hk).1, Nat.le_trans hb (h.2 k hk).2⟩⟩
/-- The blocks of a row: its own, then its elements'. -/
def foot (v : Value) (ps : List (α × List Nat)) : List Nat := v.ownBlock.toList ++ ps.flatMap (·.2)
/-- A row of one's own with what it leads to; its blocks are fp. -/
def Row (t : Td α) (e : Nat) (w : World) (v : Value) (xs : List α) (fp : List Nat) : Prop :=
  ∃ ps : List (α × List Nat), ps.map (·.1) = xs ∧ foot v ps = fp ∧ t.kd.R e w 0 (fun k => k ∈ fp) v ps
section
variable {t : Td α} {e : Nat} {w w1 : World} {v : Value} {xs : List α} {fp : List Nat}
theorem Row_move (h : t.Row e w v xs fp) (hm : ∀ k ∈ fp, w1.heap[k]? = w.heap[k]?) : t.Row e w1 v xs fp := by
  obtain ⟨ps, h1, h2, h3⟩ := h
  exact ⟨ps, h1, h2, Kd.R_move h3 hm⟩
theorem Row_typed (h : t.Row e w v xs fp) : ∀ k ∈ fp, ∃ q, q ∈ e :: t.E ∧ ∃ cells, w.heap[k]? = some (.cells cells q (0, 0)) := by
  obtain ⟨ps, h1, rfl, h3⟩ := h
  intro k hk
  rcases List.mem_append.1 hk with hk | hk
  · obtain ⟨cells, hc⟩ := Kd.R_typed h3 k (by simpa using hk)
    exact ⟨e, List.mem_cons_self, cells, hc⟩
  · obtain ⟨p, hp, hk⟩ := List.mem_flatMap.1 hk
    obtain ⟨_, inner, ho, hr⟩ := h3
    obtain ⟨j, hj, rfl⟩ := List.getElem_of_mem hp
    obtain ⟨q, hq, cells, hc⟩ := t.T_typed (hr.2 j _ (List.getElem?_eq_getElem hj)).1 k hk
    exact ⟨q, List.mem_cons_of_mem _ hq, cells, hc⟩
theorem Row_lt (h : t.Row e w v xs fp) : ∀ k ∈ fp, k < w.heap.size := fun k hk => by
  obtain ⟨q, _, cells, hc⟩ := Row_typed h k hk
  exact blk_lt hc
theorem Row_below (h : t.Row e w v xs fp) (hb : Below w.heap.size w w1) : t.Row e w1 v xs fp := Row_move h (fun k hk => hb.block k (Row_lt h k hk))
theorem Row_nil (t : Td α) (e : Nat) (w : World) : t.Row e w (.slice none 0 0) [] [] := ⟨[], rfl, rfl, Kd.R_nil _ _ _ _ _⟩
theorem Row_slice (h : t.Row e w v xs fp) : ∃ A c, v = .slice A xs.length c := by
  obtain ⟨ps, h1, _, h3⟩ := h
  obtain ⟨A, c, h4⟩ := Kd.R_slice h3
  exact ⟨A, c, by rw [h4, ← h1, List.length_map]⟩
/-- Read by any kind whose elements it holds. -/
theorem Row_C {d : Kd α} (hs : d.sz = t.sz) (hd : ∀ x cs f, t.T w x cs f → d.K w x cs) (h : t.Row e w v xs fp) : ∃ A c, v = .slice A xs.length c ∧ xs.length ≤ c ∧ d.C w A xs.length xs := by
  obtain ⟨ps, h1, _, h3⟩ := h
  obtain ⟨A, c, h4, h5, hn, hm, h6⟩ := Kd.R_reads h3
  have hl : xs.length = ps.length := by rw [← h1, List.length_map]
  refine ⟨A, c, by rw [h4, hl], by omega, rfl, by omega, fun hp => ?_⟩
  obtain ⟨ad, ha, hc⟩ := h6 (by omega)
  refine ⟨ad, ha, fun j p hj => ?_⟩
  rw [← h1, List.getElem?_map] at hj
  obtain ⟨q, hq, rfl⟩ := Option.map_eq_some_iff.1 hj
  obtain ⟨cs, hcl, hT, hcc⟩ := hc j q hq
  refine ⟨cs, hcl.trans hs.symm, hd _ _ _ hT, fun i u hu => ?_⟩
  have := hcc i u hu
  rw [hs]; exact this
end
/-! #### the kinds -/
def scalar (enc : α → Value) (h1 : ∀ x, (enc x).oneCell' = true) : Td α where
  sz := 1
  E := []
  T := fun _ x cs fp => cs = [enc x] ∧ fp = []
  T_len := fun h => by rw [h.1]; rfl
  T_one := fun h u hu => by
    rw [h.1] at hu
    rw [List.mem_singleton.1 hu]
    exact h1 _
  T_typed := fun h k hk => by rw [h.2] at hk; cases hk
  T_move := fun _ h => h
def int (k : IntKind) : Td Int := scalar (Value.int k) (fun _ => rfl)
def bool : Td Bool := scalar Value.bool (fun _ => rfl)
def string : Td ByteArray := scalar Value.string (fun _ => rfl)
def slice (e : Nat) (t : Td α) : Td (List α) where
  sz := 1
  E := e :: t.E
  T := fun w xs cs fp => ∃ v, cs = [v] ∧ t.Row e w v xs fp
  T_len := by
    rintro w x cs fp ⟨v, rfl, _⟩
    rfl
  T_one := by
    rintro w x cs fp ⟨v, rfl, h⟩ u hu
    obtain ⟨A, c, rfl⟩ := Row_slice h
    rw [List.mem_singleton.1 hu]
    rfl
  T_typed := by
    rintro w x cs fp ⟨v, rfl, h⟩
    exact Row_typed h
  T_move := by
    rintro w w1 x cs fp hm ⟨v, rfl, h⟩
    exact ⟨v, rfl, Row_move h hm⟩
def pair (a : Td α) (b : Td β) : Td (α × β) where
  sz := a.sz + b.sz
  E := a.E ++ b.E
  T := fun w x cs fp => ∃ c0 c1 f0 f1, cs = c0 ++ c1 ∧ fp = f0 ++ f1 ∧ a.T w x.1 c0 f0 ∧ b.T w x.2 c1 f1
  T_len := by
    rintro w x cs fp ⟨c0, c1, f0, f1, rfl, rfl, h0, h1⟩
    rw [List.length_append, a.T_len h0, b.T_len h1]
  T_one := by
    rintro w x cs fp ⟨c0, c1, f0, f1, rfl, rfl, h0, h1⟩ u hu
    rcases List.mem_append.1 hu with hu | hu
    · exact a.T_one h0 u hu
    · exact b.T_one h1 u hu
  T_typed := by
    rintro w x cs fp ⟨c0, c1, f0, f1, rfl, rfl, h0, h1⟩ k hk
    rcases List.mem_append.1 hk with hk | hk
    · obtain ⟨q, hq, hc⟩ := a.T_typed h0 k hk
      exact ⟨q, List.mem_append_left _ hq, hc⟩
    · obtain ⟨q, hq, hc⟩ := b.T_typed h1 k hk
      exact ⟨q, List.mem_append_right _ hq, hc⟩
  T_move := by
    rintro w w1 x cs fp hm ⟨c0, c1, f0, f1, rfl, rfl, h0, h1⟩
    exact ⟨c0, c1, f0, f1, rfl, rfl, a.T_move (fun k hk => hm k (List.mem_append_left _ hk)) h0, b.T_move (fun k hk => hm k (List.mem_append_right _ hk)) h1⟩
def iso (t : Td α) (f : β → α) : Td β where
  sz := t.sz
  E := t.E
  T := fun w x cs fp => t.T w (f x) cs fp
  T_len := t.T_len
  T_one := t.T_one
  T_typed := t.T_typed
  T_move := t.T_move
def bot (sz : Nat) (E : List Nat) : Td α where
  sz := sz
  E := E
  T := fun _ _ _ _ => False
  T_len := fun h => h.elim
  T_one := fun h => h.elim
  T_typed := fun h => h.elim
  T_move := fun _ h => h
/-- A type nested in itself: nested at most n deep. -/
def upto (F : Td α → Td α) (sz : Nat) (E : List Nat) : Nat → Td α
  | 0 => bot sz E
  | n + 1 => F (upto F sz E n)
/-! #### rows of scalars are the kit's -/
theorem Row_of_R {enc : α → Value} {h1 : ∀ x, (enc x).oneCell' = true} {e base : Nat} {ok : Nat → Prop} {w : World} {v : Value} {xs : List α} (h : (Kd.scalar enc h1).R e w base ok v xs) :
    (scalar enc h1).Row e w v xs v.ownBlock.toList := by
  have ho := Kd.own_of_R h
  have hf : foot v (xs.map fun x => (x, ([] : List Nat))) = v.ownBlock.toList := by
    unfold foot
    rw [List.flatMap_map]
    simp
  refine ⟨xs.map fun x => (x, []), by rw [List.map_map]; exact List.map_id _, hf, fun k hk => by simp [hk], encs enc xs, ?_, ?_⟩
  · rw [List.length_map]
    exact own_weaken ho (Nat.zero_le _)
  · have hr := Kd.reps_scalar (enc := enc) xs
    refine ⟨by rw [List.length_map]; exact hr.1, fun j p hj => ?_⟩
    rw [List.getElem?_map] at hj
    obtain ⟨x, hx, rfl⟩ := Option.map_eq_some_iff.1 hj
    exact ⟨⟨hr.2 j x hx, rfl⟩, fun k hk => by cases hk⟩
end Td
end Go.Proofs.Ytmoiacijklkfaaa.G

/- GKMark -/
/-
  A row whose elements' rows lie apart, one element at a time: a cell of it stored, its inner rows written.
-/
namespace Go.Proofs.Ytmoiacijklkfaaa.G
open Go.RowKit Go.Proofs.YtmoiacijklkfaaaW.PrintWords Go.Proofs.YtmoiacijklkfaaaW.PrintLast Go.Proofs.YtmoiacijklkfaaaW.PrintMore
set_option linter.unusedVariables false
theorem flat_apart : ∀ (L : List (List Nat)), L.flatten.Nodup → ∀ i j (hi : i < L.length) (hj : j < L.length), i ≠ j → ∀ k, k ∈ L[i] → k ∉ L[j]
  | [], _, i, _, hi, _, _, _, _ => by simp at hi
  | l :: L, h, i, j, hi, hj, hne, k, hk => by
    rw [List.flatten_cons, List.nodup_append] at h
    obtain ⟨_, h2, h3⟩ := h
    have into : ∀ q (hq : q < L.length), k ∈ L[q] → k ∈ L.flatten := fun q hq hm => List.mem_flatten.2 ⟨_, List.getElem_mem hq, hm⟩
    match i, j with
    | 0, 0 => exact absurd rfl hne
    | 0, j + 1 =>
      intro hm
      exact h3 k hk k (into j (by simpa using hj) hm) rfl
    | i + 1, 0 =>
      intro hm
      exact h3 k hm k (into i (by simpa using hi) hk) rfl
    | i + 1, j + 1 => exact flat_apart L h2 i j (by simpa using hi) (by simpa using hj) (by omega) k hk
namespace Td
section
variable {α : Type} {t : Td α} {e : Nat} {w : World} {v : Value} {xs : List α} {fp : List Nat}
theorem flatMap_eq (ps : List (α × List Nat)) : ps.flatMap (·.2) = (ps.map (·.2)).flatten := by rw [List.flatMap_def]
/-- Element i: where it lies, what it leads to, and what may be done to it. -/
theorem Row_at (h : t.Row e w v xs fp) (hn : fp.Nodup) {i : Nat} (hi : i < xs.length) : ∃ (g cap : Nat) (cs : List Value) (f : List Nat), v = .slice (some ⟨g, 0, none⟩) xs.length cap ∧ xs.length ≤ cap ∧ t.T w xs[i] cs f ∧
    (∀ j u, cs[j]? = some u → w.cell? ⟨g, i * t.sz + j, none⟩ = some u) ∧ (∀ j, w.frozen? ⟨g, j, none⟩ = false) ∧ g ∈ fp ∧ g ∉ f ∧ f.Nodup ∧ (∀ k ∈ f, k ∈ fp) ∧ g < w.heap.size ∧
    (∀ (w' : World) (x' : α), t.T w' x' cs f → (∀ k ∈ fp, k ∉ f → w'.heap[k]? = w.heap[k]?) → t.Row e w' v (xs.set i x') fp) ∧
    (∀ (j : Nat) (u : Value) (x' : α), j < t.sz → t.T w x' (cs.take j ++ [u] ++ cs.drop (j + 1)) f → t.Row e (w.setCell ⟨g, i * t.sz + j, none⟩ u) v (xs.set i x') fp) := by
  obtain ⟨ps, rfl, hf, hR⟩ := h
  have hl : ps.length = (ps.map (·.1)).length := by rw [List.length_map]
  have hip : i < ps.length := by omega
  have hR0 := hR
  obtain ⟨h0, inner, ho, hr⟩ := hR
  have ho' := ho
  obtain ⟨ho1, ho2⟩ := ho
  rcases ho2 with ⟨_, hz⟩ | ⟨g, cap, cur, rfl, hb, hh, a1, a2, a3, a4⟩
  · omega
  have hfoot : fp = g :: (ps.map (·.2)).flatten := by rw [← hf, ← flatMap_eq]; rfl
  have hel := hr.2 i _ (List.getElem?_eq_getElem hip)
  obtain ⟨hT, hok⟩ := hel
  have hnd := hn
  rw [hfoot, List.nodup_cons] at hnd
  have hgf : g ∉ ps[i].2 := fun hg => hnd.1 (List.mem_flatten.2 ⟨_, List.mem_map.2 ⟨ps[i], List.getElem_mem hip, rfl⟩, hg⟩)
  have hseg : i * t.sz + t.sz ≤ inner.length := by rw [hr.1, ← Nat.succ_mul]; exact Nat.mul_le_mul_right _ hip
  have hcell : ∀ j u, ((inner.drop (i * t.sz)).take t.sz)[j]? = some u → w.cell? ⟨g, i * t.sz + j, none⟩ = some u := fun j u hu => by
    rw [List.getElem?_take] at hu
    split at hu
    · rw [List.getElem?_drop] at hu
      have := ho'.cells (g := g) (by simp [Value.ownBlock]) _ u hu
      rwa [add_plain] at this
    · cases hu
  have hfin : ∀ k ∈ ps[i].2, k ∈ fp := fun k hk => (hok k hk).1.1
  have hsubnd : ps[i].2.Nodup := by
    have h2 := hnd.2
    have hs : ps[i].2.Sublist (ps.map (·.2)).flatten := List.sublist_flatten_of_mem (List.mem_map.2 ⟨ps[i], List.getElem_mem hip, rfl⟩)
    exact hs.nodup h2
  have hmap2 : ∀ x' : α, (ps.set i (x', ps[i].2)).map (·.2) = ps.map (·.2) := fun x' => by
    rw [List.map_set]
    have : (ps.map (·.2)).set i ((ps.map (·.2))[i]'(by rw [List.length_map]; exact hip)) = ps.map (·.2) := List.set_getElem_self _
    rw [List.getElem_map] at this
    exact this
  have hmap1 : ∀ x' : α, (ps.set i (x', ps[i].2)).map (·.1) = (ps.map (·.1)).set i x' := fun x' => by rw [List.map_set]
  have hfoot' : ∀ x' : α, foot (.slice (some ⟨g, 0, none⟩) ps.length cap) (ps.set i (x', ps[i].2)) = fp := fun x' => by
    unfold foot
    rw [flatMap_eq, hmap2, hfoot]; rfl
  refine ⟨g, cap, (inner.drop (i * t.sz)).take t.sz, ps[i].2, by rw [List.length_map], by rw [List.length_map]; exact a1, by rw [List.getElem_map]; exact hT, hcell, fun j => blk_frozen hh j, by rw [hfoot]; exact List.mem_cons_self, hgf, hsubnd, hfin, blk_lt hh, ?_, ?_⟩
  · intro w' x' hT' hm
    refine ⟨ps.set i (x', ps[i].2), hmap1 x', hfoot' x', fun k hk => h0 k hk, inner, ?_, ?_⟩
    · rw [List.length_set]
      exact own_move ho' (fun k hk => by
        have : g = k := by simpa [Value.ownBlock] using hk
        subst this
        exact hm _ (by rw [hfoot]; exact List.mem_cons_self) hgf)
    · refine ⟨by rw [List.length_set]; exact hr.1, fun j p hj => ?_⟩
      by_cases hji : j = i
      · subst hji
        rw [List.getElem?_set_self hip] at hj
        cases hj
        exact ⟨hT', hok⟩
      · rw [List.getElem?_set_ne (by omega)] at hj
        obtain ⟨hjl, rfl⟩ := List.getElem?_eq_some_iff.1 hj
        obtain ⟨q1, q2⟩ := hr.2 j _ hj
        refine ⟨t.T_move (fun k hk => hm k (q2 k hk).1.1 ?_) q1, q2⟩
        have := flat_apart (ps.map (·.2)) hnd.2 j i (by rw [List.length_map]; exact hjl) (by rw [List.length_map]; exact hip) hji k
        rw [List.getElem_map, List.getElem_map] at this
        exact this hk
  · intro j u x' hj hT'
    have hcl : ((inner.drop (i * t.sz)).take t.sz).length = t.sz := by rw [List.length_take, List.length_drop]; omega
    have hM : t.kd.M w 0 (fun k => k ∈ ps[i].2) (x', ps[i].2) ((((inner.drop (i * t.sz)).take t.sz).take j) ++ [u] ++ ((inner.drop (i * t.sz)).take t.sz).drop (j + [u].length)) := ⟨hT', fun k hk => ⟨hk, Nat.zero_le _⟩⟩
    have hs := Kd.R_seg (d := t.kd) hR0 (i : Int) (by omega) (by omega) (c := (inner.drop (i * t.sz)).take t.sz) (seg := [u]) (j := j) hcl (fun j u hu => hcell j u hu) (by show j + 1 ≤ t.sz; omega) hM (fun k hk => ⟨hfin k hk, fun e => hgf (e ▸ hk)⟩)
    exact ⟨ps.set i (x', ps[i].2), hmap1 x', hfoot' x', hs.1⟩
end
end Td
end Go.Proofs.Ytmoiacijklkfaaa.G

/- G83 -/
-- Laid by wip/g/gprint.py out of the translation, by the kit's print program. Lean checks it.
namespace Go.Proofs.Ytmoiacijklkfaaa.G
open Go.RowKit Go.Proofs.YtmoiacijklkfaaaW.PrintWords Go.Proofs.YtmoiacijklkfaaaW.PrintLast Go.Proofs.YtmoiacijklkfaaaW.PrintMore
attribute [local go_sem] max2_int min2_int max_two min_two max_three min_three max_four min_four   -- for this text's walks alone
set_option linter.unusedVariables false
set_option linter.unusedSimpArgs false

/-! ### laws_markText: function 83 -/
end Go.Proofs.Ytmoiacijklkfaaa.G

/- PMark -/
/-
  Marks: a number's own text.
-/
namespace Go.Proofs.Ytmoiacijklkfaaa.G
open Go.RowKit Go.Proofs.YtmoiacijklkfaaaW.PrintWords Go.Proofs.YtmoiacijklkfaaaW.PrintLast Go.Proofs.YtmoiacijklkfaaaW.PrintMore
set_option linter.unusedVariables false
set_option linter.unusedSimpArgs false

/-! ### markText -/
end Go.Proofs.Ytmoiacijklkfaaa.G

/- G52 -/
-- Laid by wip/g/gprint.py out of the translation, by the kit's print program. Lean checks it.
namespace Go.Proofs.Ytmoiacijklkfaaa.G
open Go.RowKit Go.Proofs.YtmoiacijklkfaaaW.PrintWords Go.Proofs.YtmoiacijklkfaaaW.PrintLast Go.Proofs.YtmoiacijklkfaaaW.PrintMore
attribute [local go_sem] max2_int min2_int max_two min_two max_three min_three max_four min_four   -- for this text's walks alone
set_option linter.unusedVariables false
set_option linter.unusedSimpArgs false

/-! ### laws_markStringS: function 52 -/
end Go.Proofs.Ytmoiacijklkfaaa.G

/- GKMarkS -/
/-
  Marks: texts and rows whose elements lie apart are marked in place.
-/
namespace Go.Proofs.Ytmoiacijklkfaaa.G
open Go.RowKit Go.Proofs.YtmoiacijklkfaaaW.PrintWords Go.Proofs.YtmoiacijklkfaaaW.PrintLast Go.Proofs.YtmoiacijklkfaaaW.PrintMore
set_option linter.unusedVariables false
set_option linter.unusedSimpArgs false
theorem set_mid {α : Type} (ps bs : List α) (x y : α) : (ps ++ x :: bs).set ps.length y = ps ++ y :: bs := by
  rw [List.set_append_right _ _ (Nat.le_refl _)]; simp
theorem set_at {α : Type} (ps bs : List α) (x y : α) {i : Nat} (h : ps.length = i) : (ps ++ x :: bs).set i y = ps ++ y :: bs := by
  subst h; exact set_mid ps bs x y
/-! ### texts -/
end Go.Proofs.Ytmoiacijklkfaaa.G

/- GKVal -/
/-
  Values (the program's) as trees whose rows lie apart.
-/
namespace Go.Proofs.Ytmoiacijklkfaaa.G
open Go.RowKit Go.Proofs.YtmoiacijklkfaaaW.PrintWords Go.Proofs.YtmoiacijklkfaaaW.PrintLast Go.Proofs.YtmoiacijklkfaaaW.PrintMore
set_option linter.unusedVariables false
abbrev TVal := S44
/-- A value, n deep at most. -/
def tF (d : Td TVal) : Td TVal := Td.iso (Td.pair (Td.int .i64) (Td.pair Td.string (Td.pair (Td.int .i64) (Td.pair (Td.slice 9 Td.string) (Td.slice 44 d))))) (fun x => (x.f0, x.f1, x.f2, x.f3, x.f4))
abbrev tV (n : Nat) : Td TVal := Td.upto tF 5 [9, 44] n
theorem tV_sz : ∀ n, (tV n).sz = 5
  | 0 => rfl
  | n + 1 => rfl
section
variable {n : Nat} {w : World} {x : TVal} {cs : List Value} {fp : List Nat}
theorem tV_open (h : (tV (n + 1)).T w x cs fp) : ∃ v3 v4 f3 f4, cs = [.int .i64 x.f0, .string x.f1, .int .i64 x.f2, v3, v4] ∧ fp = f3 ++ f4 ∧ Td.string.Row 9 w v3 x.f3 f3 ∧ (tV n).Row 44 w v4 x.f4 f4 := by
  obtain ⟨_, _, _, q0, e0, p0, ⟨rfl, rfl⟩, _, _, _, q1, e1, p1, ⟨rfl, rfl⟩, _, _, _, q2, e2, p2, ⟨rfl, rfl⟩, _, _, f3, f4, e3, p3, ⟨v3, rfl, h3⟩, ⟨v4, rfl, h4⟩⟩ := h
  exact ⟨v3, v4, f3, f4, by rw [e0, e1, e2, e3]; rfl, by rw [p0, p1, p2, p3]; rfl, h3, h4⟩
theorem tV_mk {v3 v4 : Value} {f3 f4 : List Nat} (h3 : Td.string.Row 9 w v3 x.f3 f3) (h4 : (tV n).Row 44 w v4 x.f4 f4) : (tV (n + 1)).T w x [.int .i64 x.f0, .string x.f1, .int .i64 x.f2, v3, v4] (f3 ++ f4) :=
  ⟨[_], [_, _, _, _], [], _, rfl, rfl, ⟨rfl, rfl⟩, [_], [_, _, _], [], _, rfl, rfl, ⟨rfl, rfl⟩, [_], [_, _], [], _, rfl, rfl, ⟨rfl, rfl⟩, [_], [_], _, _, rfl, rfl, ⟨v3, rfl, h3⟩, ⟨v4, rfl, h4⟩⟩
end
theorem str_C {e : Nat} {w : World} {v : Value} {xs : List ByteArray} {fp : List Nat} (h : Td.string.Row e w v xs fp) : ∃ A c, v = .slice A xs.length c ∧ xs.length ≤ c ∧ Kd.C Kd.string w A xs.length xs :=
  Td.Row_C (d := Kd.string) (t := Td.string) rfl (fun x cs f (h : cs = [.string x] ∧ f = []) => h.1) h
theorem tV_K : ∀ {n : Nat} {w : World} {x : TVal} {cs : List Value} {fp : List Nat}, (tV n).T w x cs fp → k44.K w x cs
  | 0, _, _, _, _, h => h.elim
  | n + 1, w, x, cs, fp, h => by
    obtain ⟨v3, v4, f3, f4, rfl, rfl, h3, h4⟩ := tV_open h
    obtain ⟨A3, c3, rfl, l3, g3⟩ := str_C h3
    obtain ⟨A4, c4, rfl, l4, g4⟩ := Td.Row_C (d := k44) (tV_sz n).symm (fun _ _ _ h => tV_K h) h4
    exact k44_mk w x l3 g3 l4 g4
end Go.Proofs.Ytmoiacijklkfaaa.G

/- GKValAt -/
/-
  A row of values whose rows lie apart: one value of it, its cells stored, its keys and kids written.
-/
namespace Go.Proofs.Ytmoiacijklkfaaa.G
open Go.RowKit Go.Proofs.YtmoiacijklkfaaaW.PrintWords Go.Proofs.YtmoiacijklkfaaaW.PrintLast Go.Proofs.YtmoiacijklkfaaaW.PrintMore
set_option linter.unusedVariables false
section
variable {n : Nat} {w : World} {v : Value} {ps bs : List TVal} {x : TVal} {fp : List Nat}
end
end Go.Proofs.Ytmoiacijklkfaaa.G

/- GKMarkV -/
/-
  Marks: a tree of values whose rows lie apart is marked in place, each text and number with its own mark.
-/
namespace Go.Proofs.Ytmoiacijklkfaaa.G
open Go.RowKit Go.Proofs.YtmoiacijklkfaaaW.PrintWords Go.Proofs.YtmoiacijklkfaaaW.PrintLast Go.Proofs.YtmoiacijklkfaaaW.PrintMore
set_option linter.unusedVariables false
set_option linter.unusedSimpArgs false
/-! ### values -/
end Go.Proofs.Ytmoiacijklkfaaa.G

/- PValCnt -/
/-
  How many marks a value takes: no more than four times its size.
-/
namespace Go.Proofs.Ytmoiacijklkfaaa.G
open Go.RowKit Go.Proofs.YtmoiacijklkfaaaW.PrintWords Go.Proofs.YtmoiacijklkfaaaW.PrintLast Go.Proofs.YtmoiacijklkfaaaW.PrintMore
set_option linter.unusedVariables false
set_option linter.unusedSimpArgs false
/-- The program's value of a law's value, n deep. -/
def cVN : Nat → LVal → IVal
  | 0, x => ⟨x.f0, x.f1, x.f2, x.f3, []⟩
  | n + 1, x => ⟨x.f0, x.f1, x.f2, x.f3, x.f4.map (cVN n)⟩
theorem cVN_sm : ∀ (n : Nat) (x : LVal), wfValN n x → SmL n x → SmI n (cVN n x)
  | 0, x, _, h => by rw [SmL] at h; exact h.elim
  | n + 1, x, hw, h => by
    rw [wfValN] at hw
    rw [SmL] at h
    rw [SmI, cVN]
    refine ⟨hw.2.2.1, h.1, h.2.1, by simpa using h.2.2.1, fun y hy => ?_⟩
    obtain ⟨z, hz, rfl⟩ := List.mem_map.1 hy
    exact cVN_sm n z (hw.2.2.2.2.2 z hz) (h.2.2.2 z hz)
def mcL : Nat → LVal → Nat
  | 0, x => x.f3.length
  | n + 1, x => x.f3.length + (x.f4.map (fun y => 3 + mcL n y)).sum
theorem szValue_cnt : ∀ (n : Nat) (x : LVal) (left : Int), wfValN n x → 0 ≤ left → left ≤ 1048576 → ∃ r, Ev (fun k => laws_szValue.f k x.f0 x.f1 x.f2 x.f3 x.f4 left) r ∧ Left left (SmL n x ∧ (mcL n x : Int) ≤ 4 * (left - r)) r
  | 0, x, left, hw, _, _ => by rw [wfValN] at hw; exact hw.elim
  | n + 1, x, left, hw, h0, h1 => by
    rw [wfValN] at hw
    obtain ⟨_, ht, _, hk, hl, hkids⟩ := hw
    unfold wfStr at ht
    have loop : ∀ (d i : Nat) (left : Int), i + d = x.f4.length → 0 ≤ left → left ≤ 1048576 → ∃ r, Ev (fun k => laws_szValueS.l0 k x.f4 left i) r ∧ Left left ((∀ y ∈ x.f4.drop i, SmL n y) ∧ (((x.f4.drop i).map (mcL n)).sum : Int) ≤ 4 * (left - r)) r := by
      intro d
      induction d with
      | zero =>
        intro i left hi h0 h1
        refine ⟨left, Ev.step (fun k => by rw [laws_szValueS.l0]) (ev_if_neg (by omega) (Ev.now _)), .inr ⟨h0, Int.le_refl _, ?_⟩⟩
        rw [List.drop_of_length_le (by omega)]
        exact ⟨fun y hy => (by cases hy), by simp⟩
      | succ d ih =>
        intro i left hid h0 h1
        have hi : i < x.f4.length := by omega
        obtain ⟨r, hr, hL⟩ := szValue_cnt n x.f4[i] left (hkids _ (List.getElem_mem hi)) h0 h1
        rcases hL with hneg | ⟨hp, hle, hs⟩
        · refine ⟨-1, Ev.step (fun k => by rw [laws_szValueS.l0]) (ev_if_pos (by omega) (ev_if_pos (by omega) ?_)), .inl (by omega)⟩
          simp only [rdLV hi]
          exact Ev.bind hr (ev_if_pos hneg (Ev.now _))
        · obtain ⟨r2, hr2, hL2⟩ := ih (i + 1) r (by omega) hp (by omega)
          refine ⟨r2, Ev.step (fun k => by rw [laws_szValueS.l0]) (ev_if_pos (by omega) (ev_if_pos (by omega) ?_)), ?_⟩
          · simp only [rdLV hi, wsucc hi hl]
            exact Ev.bind hr (ev_if_neg (by omega) hr2)
          · rcases hL2 with h | ⟨a, b, c, c2⟩
            · exact .inl h
            · refine .inr ⟨a, by omega, ?_, ?_⟩
              · rw [List.drop_eq_getElem_cons hi]
                intro y hy
                rcases List.mem_cons.1 hy with rfl | hy
                · exact hs.1
                · exact c y hy
              · rw [List.drop_eq_getElem_cons hi, List.map_cons, List.sum_cons]
                have := hs.2
                omega
    have hsum : ((x.f4.map (fun y => 3 + mcL n y)).sum : Nat) = 3 * x.f4.length + (x.f4.map (mcL n)).sum := by
      have : ∀ l : List LVal, ((l.map (fun y => 3 + mcL n y)).sum : Nat) = 3 * l.length + (l.map (mcL n)).sum := by
        intro l
        induction l with
        | nil => simp
        | cons y l ih => rw [List.map_cons, List.sum_cons, ih, List.map_cons, List.sum_cons, List.length_cons]; omega
      exact this _
    by_cases c1 : left - (x.f1.size : Int) < 0
    · exact ⟨-1, Ev.step (fun k => by rw [laws_szValue.f]) (ev_if_pos (by rw [w64 (by omega) (by omega)]; exact c1) (Ev.now _)), .inl (by omega)⟩
    · have hz := szStringS_ev x.f3 (left - (x.f1.size : Int)) ⟨hk.1, hk.2⟩ (by omega) (by omega)
      have hle := szR_le (by omega : 0 ≤ left - (x.f1.size : Int)) (totStrs x.f3)
      by_cases c2 : szR (left - (x.f1.size : Int)) (totStrs x.f3) < 0
      · refine ⟨-1, Ev.step (fun k => by rw [laws_szValue.f]) ?_, .inl (by omega)⟩
        rw [w64 (by omega) (by omega)]
        exact ev_if_neg c1 (Ev.bind hz (ev_if_pos c2 (Ev.now _)))
      · have hsm := strs_small (by omega) (by omega : 0 ≤ szR (left - (x.f1.size : Int)) (totStrs x.f3))
        have hpos := szR_nonneg (by omega : 0 ≤ szR (left - (x.f1.size : Int)) (totStrs x.f3))
        have hqv := szR_pos hpos
        have htl : x.f3.length ≤ totStrs x.f3 := by unfold totStrs; omega
        generalize hq : szR (left - (x.f1.size : Int)) (totStrs x.f3) = q at hz hle c2 hsm hqv
        by_cases c3 : q - (x.f4.length : Int) < 0
        · refine ⟨-1, Ev.step (fun k => by rw [laws_szValue.f]) ?_, .inl (by omega)⟩
          rw [w64 (by omega) (by omega)]
          refine ev_if_neg c1 (Ev.bind hz (ev_if_neg c2 (Ev.bind (a := -1) (Ev.step (fun k => by rw [laws_szValueS.f]) ?_) (ev_if_pos (by omega) (Ev.now _)))))
          rw [w64 (by omega) (by omega)]
          exact ev_if_pos c3 (Ev.now _)
        · obtain ⟨r, hr, hL⟩ := loop x.f4.length 0 (q - (x.f4.length : Int)) (by omega) (by omega) (by omega)
          have hkid : Ev (fun k => laws_szValueS.f k x.f4 q) r := by
            refine Ev.step (fun k => by rw [laws_szValueS.f]) ?_
            rw [w64 (by omega) (by omega)]
            exact ev_if_neg c3 hr
          rcases hL with hneg | ⟨hp, hle2, hs, hs2⟩
          · refine ⟨-1, Ev.step (fun k => by rw [laws_szValue.f]) ?_, .inl (by omega)⟩
            rw [w64 (by omega) (by omega)]
            exact ev_if_neg c1 (Ev.bind hz (ev_if_neg c2 (Ev.bind hkid (ev_if_pos hneg (Ev.now _)))))
          · refine ⟨r, Ev.step (fun k => by rw [laws_szValue.f]) ?_, .inr ⟨hp, by omega, ?_, ?_⟩⟩
            · rw [w64 (by omega) (by omega)]
              exact ev_if_neg c1 (Ev.bind hz (ev_if_neg c2 (Ev.bind hkid (ev_if_neg (by omega) (Ev.now _)))))
            · rw [SmL]
              exact ⟨by omega, hsm, by omega, fun y hy => hs y (by rw [List.drop_zero]; exact hy)⟩
            · rw [mcL, hsum]
              rw [List.drop_zero] at hs2
              omega
end Go.Proofs.Ytmoiacijklkfaaa.G

/- GKObj -/
/-
  Whole structs read, written and boxed as one step, whatever their cells; objects (the program's) as trees whose rows lie apart.
-/
namespace Go.Proofs.Ytmoiacijklkfaaa.G
open Go.RowKit Go.Proofs.YtmoiacijklkfaaaW.PrintWords Go.Proofs.YtmoiacijklkfaaaW.PrintLast Go.Proofs.YtmoiacijklkfaaaW.PrintMore
set_option linter.unusedVariables false
section
variable {P : Program} {ops : Array Oper} {rest : List Oper} {op : Oper} {a : Act} {w : World} {Q : Exit → Act → World → Prop}
theorem loadVar_row {ty : TypeId} {ad : Addr} {cs : List Value} {d : TypeDesc} (hc : ∀ j v, cs[j]? = some v → w.cell? (ad.add j) = some v) (hu : P.underlying ty = some d) (hd : d.isRow = true) (hi : (P.info? ty).map (·.size) = some cs.length) :
    (loadVar ty ad).run P w = .ok (.agg cs.toArray) w := by
  have hl : (loadCells ad cs.length).run P w = .ok cs.toArray w := run_loadCells_list (P := P) w ad cs hc
  cases hq : P.info? ty with
  | none => simp [hq] at hi
  | some i =>
    have hs : i.size = cs.length := by simpa [hq] using hi
    have hagg : (isAgg ty).run P w = .ok true w := by
      unfold isAgg
      rw [Sem.run_bind, run_underlying hu w]
      cases d <;> simp_all
    simp [loadVar, Sem.run_bind, hagg, sizeOf, typeInfo, hq, hs, hl]
/-- A struct is loaded, as one. -/
theorem load_event (hgd : op.guard = none) {N : Tmp} (hdst : op.dst = some N) (ty : TypeId) (x : Operand) (ho : op.op = .load ty x) (ad : Addr) (hx : a.eval x = .pointer (some ad)) (cs : List Value) {d : TypeDesc} (hc : ∀ j v, cs[j]? = some v → w.cell? (ad.add j) = some v)
    (hu : P.underlying ty = some d) (hd : d.isRow = true) (hi : (P.info? ty).map (·.size) = some cs.length) (h : wpList P ops Q rest (a.put (some N) (.agg cs.toArray)) w) : wpList P ops Q (op :: rest) a w := by
  refine Kd.event_run (v := .agg cs.toArray) hgd ?_ (by rw [hdst]; exact h)
  unfold execOp
  simp only [ho, hx, Instr.loadAt, Instr.sureAddr, Sem.run_bind, Sem.run_pure, Result.andThen_ok, loadVar_row hc hu hd hi]
end
/-- Cells of a block that is known whole. -/
theorem blk_row {w : World} {g t : Nat} {cs : Array Value} (h : w.heap[g]? = some (.cells cs t (0, 0))) : ∀ j v, cs.toList[j]? = some v → w.cell? ((⟨g, 0, none⟩ : Addr).add j) = some v := fun j v hv => by
  rw [Addr.add_mid, Nat.zero_add, blk_cell h, ← hv, Array.getElem?_toList]
section
variable {P : Program} {ops : Array Oper} {rest : List Oper} {op : Oper} {a : Act} {w : World} {Q : Exit → Act → World → Prop}
/-- A struct is stored into a whole block, as one. -/
theorem store_event (hgd : op.guard = none) (hdst : op.dst = none) {ty : TypeId} {p v : Operand} (ho : op.op = .store ty p v) {g t : Nat} {cur : Array Value} (hg : w.heap[g]? = some (.cells cur t (0, 0))) (hp : a.eval p = .pointer (some ⟨g, 0, none⟩)) {cs : Array Value} (hv : a.eval v = .agg cs)
    (hs : cs.size = cur.size) (hi : (P.info? ty).map (·.size) = some cs.size) (h1 : ∀ u ∈ cs.toList, u.oneCell' = true) (h : ∀ w1 : World, w1.heap[g]? = some (.cells cs t (0, 0)) → w1.heap.size = w.heap.size → (∀ k, k ≠ g → w1.heap[k]? = w.heap[k]?) → (∀ w0 : World, w0.heap.size ≤ g → Below w0.heap.size w0 w → Below w0.heap.size w0 w1) → wpList P ops Q rest a w1) : wpList P ops Q (op :: rest) a w := by
  refine wpList_store_mid hgd ty p v ho g 0 cs hp hv (fun j hj => ?_) hi (Array.all_eq_true_iff_forall_mem.2 (fun u hu => h1 u (by simpa using hu))) ?_
  · rw [Nat.zero_add, blk_cell hg]
    exact ⟨by rw [Array.getElem?_eq_getElem (by omega)]; rfl, blk_frozen hg j⟩
  · have e : a.put op.dst undef = a := by rw [hdst]; rfl
    rw [e]
    obtain ⟨cur2, h2, h2s, h2l⟩ := setCells_row cs.toList 0 w cur hg (by rw [Array.length_toList]; omega)
    obtain ⟨s1, s2, s3, s4⟩ := setCells_same g cs.toList 0 w
    have e2 : cur2 = cs := by
      apply Array.toList_inj.1
      rw [h2l, List.take_zero, List.nil_append, List.drop_of_length_le (by rw [Array.length_toList, Array.length_toList]; omega), List.append_nil]
    refine h _ (by rw [h2, e2]) s4 (fun k hk => setCells_far _ _ k hk) (fun w0 hw0 hB => ?_)
    exact ⟨by rw [s1]; exact hB.os, by rw [s2]; exact hB.tape, by rw [s3]; exact hB.output, by rw [s4]; exact hB.size, fun k hk => by rw [setCells_far _ _ k (by omega)]; exact hB.block k hk⟩
end
section
variable {P : Program} {ops : Array Oper} {rest : List Oper} {op : Oper} {a : Act} {w : World} {Q : Exit → Act → World → Prop}
end
theorem blk_row' {w : World} {g t : Nat} {cs : List Value} (h : w.heap[g]? = some (.cells cs.toArray t (0, 0))) : ∀ j v, cs[j]? = some v → w.cell? ((⟨g, 0, none⟩ : Addr).add j) = some v := fun j v hv => blk_row h j v (by simpa using hv)
theorem add_add (a : Addr) (x y : Nat) : (a.add x).add y = a.add (x + y) := by
  unfold Addr.add
  by_cases h1 : x = 0 <;> by_cases h2 : y = 0 <;> simp [h1, h2, Nat.add_assoc]
/-- An element of a row that is read: its cells, as one. -/
theorem row_at {α : Type} {d : Kd α} {w : World} {A : Option Addr} {n : Nat} {xs : List α} (h : Kd.C d w A n xs) (i : Nat) (hi : i < xs.length) : ∃ ad cs, A = some ad ∧ cs.length = d.sz ∧ d.K w xs[i] cs ∧ ∀ W, Below w.heap.size w W → ∀ j v, cs[j]? = some v → W.cell? ((ad.add (i * d.sz)).add j) = some v := by
  have hn := h.1
  obtain ⟨ad, cs, e, hl, hK, hc⟩ := Kd.C_get h xs[i] (i : Int) (by omega) (by omega)
  simp only [Int.toNat_natCast, getD_at hi] at hK hc
  exact ⟨ad, cs, e, hl, hK, fun W hW j v hv => by rw [add_add]; exact pw_cell_below hW (hc j v hv)⟩
theorem below_cells {w0 w : World} {b g : Nat} (h : Below b w0 w) (hg : b ≤ g) (o : Nat) (cs : List Value) : Below b w0 (w.setCells g o cs) := by
  obtain ⟨s1, s2, s3, s4⟩ := setCells_same g cs o w
  exact ⟨by rw [s1]; exact h.os, by rw [s2]; exact h.tape, by rw [s3]; exact h.output, by rw [s4]; exact h.size, fun k hk => by rw [setCells_far _ _ k (by omega)]; exact h.block k hk⟩
section
variable {P : Program} {ops : Array Oper} {rest : List Oper} {op : Oper} {a : Act} {w : World} {Q : Exit → Act → World → Prop}
/-- A struct is stored into a row, as one. -/
theorem store_mid (hgd : op.guard = none) (hdst : op.dst = none) {ty : TypeId} {p v : Operand} (ho : op.op = .store ty p v) {g o : Nat} (hp : a.eval p = .pointer (some ⟨g, o, none⟩)) {cs : Array Value} (hv : a.eval v = .agg cs)
    (ht : ∀ j, j < cs.size → (w.cell? ⟨g, o + j, none⟩).isSome = true ∧ w.frozen? ⟨g, o + j, none⟩ = false) (hi : (P.info? ty).map (·.size) = some cs.size) (h1 : ∀ u ∈ cs.toList, u.oneCell' = true) (h : wpList P ops Q rest a (w.setCells g o cs.toList)) : wpList P ops Q (op :: rest) a w := by
  refine wpList_store_mid hgd ty p v ho g o cs hp hv ht hi (Array.all_eq_true_iff_forall_mem.2 (fun u hu => h1 u (by simpa using hu))) ?_
  have e : a.put op.dst undef = a := by rw [hdst]; rfl
  rw [e]; exact h
end
end Go.Proofs.Ytmoiacijklkfaaa.G

/- GKObjT -/
/-
  Objects (the program's) as trees whose rows lie apart.
-/
namespace Go.Proofs.Ytmoiacijklkfaaa.G
open Go.RowKit Go.Proofs.YtmoiacijklkfaaaW.PrintWords Go.Proofs.YtmoiacijklkfaaaW.PrintLast Go.Proofs.YtmoiacijklkfaaaW.PrintMore
set_option linter.unusedVariables false
abbrev IObj := S46
/-- An object whose values are n deep at most. -/
def tO (n : Nat) : Td IObj := Td.iso (Td.pair (Td.int .i64) (Td.pair Td.string (Td.pair (Td.int .i64) (Td.pair (Td.int .i64) (Td.pair (Td.int .i64) (Td.pair Td.bool (Td.pair (Td.slice 9 Td.string) (Td.pair (tV n) (tV n))))))))) (fun x => (x.f0, x.f1, x.f2, x.f3, x.f4, x.f5, x.f6, x.f7, x.f8))
section
variable {n : Nat} {w : World} {x : IObj} {cs : List Value} {fp : List Nat}
theorem tO_sz : (tO n).sz = 17 := by
  show 1 + (1 + (1 + (1 + (1 + (1 + (1 + ((tV n).sz + (tV n).sz))))))) = 17
  rw [tV_sz]
theorem tO_open (h : (tO n).T w x cs fp) : ∃ v6 c7 c8 f6 f7 f8, cs = [.int .i64 x.f0, .string x.f1, .int .i64 x.f2, .int .i64 x.f3, .int .i64 x.f4, .bool x.f5, v6] ++ (c7 ++ c8) ∧ fp = f6 ++ (f7 ++ f8) ∧ Td.string.Row 9 w v6 x.f6 f6 ∧ (tV n).T w x.f7 c7 f7 ∧ (tV n).T w x.f8 c8 f8 := by
  obtain ⟨_, _, _, q0, e0, p0, ⟨rfl, rfl⟩, _, _, _, q1, e1, p1, ⟨rfl, rfl⟩, _, _, _, q2, e2, p2, ⟨rfl, rfl⟩, _, _, _, q3, e3, p3, ⟨rfl, rfl⟩, _, _, _, q4, e4, p4, ⟨rfl, rfl⟩, _, _, _, q5, e5, p5, ⟨rfl, rfl⟩, _, _, f6, q6, e6, p6, ⟨v6, rfl, h6⟩, c7, c8, f7, f8, e7, p7, h7, h8⟩ := h
  exact ⟨v6, c7, c8, f6, f7, f8, by rw [e0, e1, e2, e3, e4, e5, e6, e7]; rfl, by rw [p0, p1, p2, p3, p4, p5, p6, p7]; rfl, h6, h7, h8⟩
theorem tO_mk {v6 : Value} {c7 c8 : List Value} {f6 f7 f8 : List Nat} (h6 : Td.string.Row 9 w v6 x.f6 f6) (h7 : (tV n).T w x.f7 c7 f7) (h8 : (tV n).T w x.f8 c8 f8) : (tO n).T w x ([.int .i64 x.f0, .string x.f1, .int .i64 x.f2, .int .i64 x.f3, .int .i64 x.f4, .bool x.f5, v6] ++ (c7 ++ c8)) (f6 ++ (f7 ++ f8)) :=
  ⟨[_], _, [], _, rfl, rfl, ⟨rfl, rfl⟩, [_], _, [], _, rfl, rfl, ⟨rfl, rfl⟩, [_], _, [], _, rfl, rfl, ⟨rfl, rfl⟩, [_], _, [], _, rfl, rfl, ⟨rfl, rfl⟩, [_], _, [], _, rfl, rfl, ⟨rfl, rfl⟩, [_], _, [], _, rfl, rfl, ⟨rfl, rfl⟩, [_], _, _, _, rfl, rfl, ⟨v6, rfl, h6⟩, c7, c8, f7, f8, rfl, rfl, h7, h8⟩
theorem tO_K (h : (tO n).T w x cs fp) : k46.K w x cs := by
  obtain ⟨v6, c7, c8, f6, f7, f8, rfl, rfl, h6, h7, h8⟩ := tO_open h
  obtain ⟨A6, a6, rfl, l6, g6⟩ := str_C h6
  exact ⟨[_], _, rfl, rfl, [_], _, rfl, rfl, [_], _, rfl, rfl, [_], _, rfl, rfl, [_], _, rfl, rfl, [_], _, rfl, rfl, [_], _, rfl, ⟨A6, a6, rfl, l6, g6⟩, _, _, rfl, tV_K h7, tV_K h8⟩
theorem tO_C {e : Nat} {v : Value} {xs : List IObj} (h : (tO n).Row e w v xs fp) : ∃ A c, v = .slice A xs.length c ∧ xs.length ≤ c ∧ Kd.C k46 w A xs.length xs :=
  Td.Row_C (d := k46) tO_sz.symm (fun _ _ _ h => tO_K h) h
end
end Go.Proofs.Ytmoiacijklkfaaa.G

/- GKOps -/
/-
  Trees in memory: a row read with a base, an element appended, an element stored, a row made.
-/
namespace Go.Proofs.Ytmoiacijklkfaaa.G
open Go.RowKit Go.Proofs.YtmoiacijklkfaaaW.PrintWords Go.Proofs.YtmoiacijklkfaaaW.PrintLast Go.Proofs.YtmoiacijklkfaaaW.PrintMore
set_option linter.unusedVariables false
namespace Td
section
variable {α : Type} {t : Td α} {e b : Nat} {w w1 : World} {v : Value} {xs : List α} {fp : List Nat} {ok : Nat → Prop} {ps : List (α × List Nat)}
theorem Row_of (h : t.kd.R e w b ok v ps) : t.Row e w v (ps.map (·.1)) (foot v ps) := by
  obtain ⟨h0, inner, ho, hr⟩ := h
  refine ⟨ps, rfl, rfl, fun k hk => List.mem_append_left _ (by rw [hk]; simp), inner, own_weaken ho (Nat.zero_le _), hr.1, fun j p hj => ?_⟩
  obtain ⟨q1, q2⟩ := hr.2 j p hj
  refine ⟨q1, fun k hk => ⟨⟨List.mem_append_right _ (List.mem_flatMap.2 ⟨p, List.mem_of_getElem? hj, hk⟩), (q2 k hk).1.2⟩, Nat.zero_le _⟩⟩
theorem foot_ok (h : t.kd.R e w b ok v ps) : ∀ k ∈ foot v ps, ok k := by
  intro k hk
  obtain ⟨h0, inner, ho, hr⟩ := h
  rcases List.mem_append.1 hk with hk | hk
  · exact h0 k (by simpa using hk)
  · obtain ⟨p, hp, hk⟩ := List.mem_flatMap.1 hk
    obtain ⟨j, hj, rfl⟩ := List.getElem_of_mem hp
    exact ((hr.2 j _ (List.getElem?_eq_getElem hj)).2 k hk).1.1
end
/-! #### append -/
section
variable {P : Program} {ops : Array Oper} {rest : List Oper} {o : Oper} {a : Act} {Q : Exit → Act → World → Prop} {α : Type}
end
/-! #### an element stored, with blocks of its own -/
section
variable {α : Type} {t : Td α} {e : Nat} {w : World} {v : Value} {xs : List α} {fp : List Nat}
theorem set_flat_nodup (L : List (List Nat)) (h : L.flatten.Nodup) (i : Nat) (f : List Nat) (hf : f.Nodup) (hd : ∀ k ∈ f, k ∉ L.flatten) : (L.set i f).flatten.Nodup := by
  unfold List.Nodup at h ⊢
  rw [List.pairwise_flatten] at h ⊢
  obtain ⟨h1, h2⟩ := h
  refine ⟨fun l hl => ?_, List.pairwise_iff_getElem.2 (fun a b ha hb hab => ?_)⟩
  · rcases List.mem_or_eq_of_mem_set hl with h | h
    · exact h1 l h
    · rw [h]; exact hf
  · rw [List.length_set] at ha hb
    have hin : ∀ q (hq : q < L.length) k, k ∈ L[q] → k ∈ L.flatten := fun q hq k hk => List.mem_flatten.2 ⟨_, List.getElem_mem hq, hk⟩
    intro x hx y hy hxy
    subst hxy
    rw [List.getElem_set] at hx hy
    by_cases ea : i = a
    · rw [if_pos ea] at hx
      rw [if_neg (by omega)] at hy
      exact hd x hx (hin b hb x hy)
    · rw [if_neg ea] at hx
      by_cases eb : i = b
      · rw [if_pos eb] at hy
        exact hd x hy (hin a ha x hx)
      · rw [if_neg eb] at hy
        exact List.pairwise_iff_getElem.1 h2 a b ha hb hab x hx x hy rfl
theorem set_flat_mem (L : List (List Nat)) (i : Nat) (f : List Nat) : ∀ k ∈ (L.set i f).flatten, k ∈ L.flatten ∨ k ∈ f := by
  intro k hk
  obtain ⟨l, hl, hk⟩ := List.mem_flatten.1 hk
  rcases List.mem_or_eq_of_mem_set hl with h | h
  · exact .inl (List.mem_flatten.2 ⟨l, h, hk⟩)
  · rw [h] at hk; exact .inr hk
theorem Row_put (h : t.Row e w v xs fp) (hn : fp.Nodup) {i : Nat} (hi : i < xs.length) {x' : α} {cs' : List Value} {f' : List Nat} (hT : t.T w x' cs' f') (hfn : f'.Nodup) (hfd : ∀ k ∈ f', k ∉ fp) :
    ∃ (g cap : Nat) (cs : List Value) (fp' : List Nat), v = .slice (some ⟨g, 0, none⟩) xs.length cap ∧ cs.length = t.sz ∧ (∀ j u, cs[j]? = some u → w.cell? ⟨g, i * t.sz + j, none⟩ = some u) ∧ (∀ j, w.frozen? ⟨g, j, none⟩ = false) ∧ g ∈ fp ∧ g < w.heap.size ∧
      t.Row e (w.setCells g (i * t.sz) cs') v (xs.set i x') fp' ∧ fp'.Nodup ∧ (∀ k ∈ fp', k ∈ fp ∨ k ∈ f') := by
  obtain ⟨ps, rfl, hf, hR⟩ := h
  have hip : i < ps.length := by simpa using hi
  obtain ⟨g, cap, cs, f, hv, _, hTi, hcell, hfz, hg, hgf, _, _, hlt, _, _⟩ := Row_at (⟨ps, rfl, hf, hR⟩ : t.Row e w v (ps.map (·.1)) fp) hn hi
  subst hv
  have hl' : (ps.map (·.1)).length = ps.length := List.length_map ..
  rw [hl'] at hR ⊢
  have hcl' := t.T_len hT
  have hM : t.kd.M w 0 (fun k => k ∈ f') (x', f') (cs.take 0 ++ cs' ++ cs.drop (0 + cs'.length)) := by
    rw [List.take_zero, List.nil_append, List.drop_of_length_le (by rw [t.T_len hTi, hcl']; omega), List.append_nil]
    exact ⟨hT, fun k hk => ⟨hk, Nat.zero_le _⟩⟩
  have hR0 : t.kd.R e w 0 (fun k => k ∈ fp ∨ k ∈ f') (.slice (some ⟨g, 0, none⟩) ps.length cap) ps := Kd.R_mono hR (fun k hk => .inl hk)
  have hs := (Kd.R_seg (d := t.kd) hR0 (i : Int) (by omega) (by omega) (c := cs) (seg := cs') (j := 0) (t.T_len hTi) (fun j u hu => hcell j u hu) (by show 0 + cs'.length ≤ t.sz; omega) hM (fun k hk => ⟨.inr hk, fun e_ => hfd k hk (e_ ▸ hg)⟩)).1
  have hrow := Row_of hs
  simp only [Int.toNat_natCast, List.map_set] at hrow
  have hsz : t.kd.sz = t.sz := rfl
  rw [hsz, Nat.add_zero] at hrow
  have hfoot : fp = g :: (ps.map (·.2)).flatten := by rw [← hf, ← flatMap_eq]; rfl
  have hfoot' : foot (.slice (some ⟨g, 0, none⟩) ps.length cap) (ps.set i (x', f')) = g :: ((ps.map (·.2)).set i f').flatten := by
    unfold foot
    rw [flatMap_eq, List.map_set]; rfl
  rw [hfoot'] at hrow
  rw [hfoot, List.nodup_cons] at hn
  have hdis : ∀ k ∈ f', k ∉ (ps.map (·.2)).flatten := fun k hk hm => hfd k hk (by rw [hfoot]; exact List.mem_cons_of_mem _ hm)
  refine ⟨g, cap, cs, _, rfl, t.T_len hTi, hcell, hfz, hg, hlt, hrow, ?_, ?_⟩
  · rw [List.nodup_cons]
    refine ⟨fun hm => ?_, set_flat_nodup _ hn.2 i f' hfn hdis⟩
    rcases set_flat_mem _ _ _ _ hm with h | h
    · exact hn.1 h
    · exact hfd g h hg
  · intro k hk
    rcases List.mem_cons.1 hk with rfl | hk
    · exact .inl hg
    · rcases set_flat_mem _ _ _ _ hk with h | h
      · exact .inl (by rw [hfoot]; exact List.mem_cons_of_mem _ h)
      · exact .inr h
end
/-! #### a row made of zeros; an empty literal -/
section
variable {P : Program} {ops : Array Oper} {rest : List Oper} {o : Oper} {a : Act} {Q : Exit → Act → World → Prop} {α : Type}
theorem flat_nils {β : Type} (n : Nat) (z : α) : (List.replicate n (z, ([] : List β))).flatMap (·.2) = [] := by
  induction n with
  | zero => rfl
  | succ n ih => rw [List.replicate_succ, List.flatMap_cons, ih]; rfl
theorem Row_make (t : Td α) {w0 W : World} (e : Nat) (hgd : o.guard = none) {N : Tmp} (hd : o.dst = some N) (ty : TypeId) (x y : Operand) (ho : o.op = .makeSlice ty x y) (n : Int) (hx : a.eval x = .int .i64 n) (hy : a.eval y = .int .i64 n)
    (ht : P.underlying ty = some (.slice e)) (z : Value) (bytes : Nat) (hinfo : (P.info? e).map (fun i => (i.zero, i.size, i.bytes)) = some (some z, t.sz, bytes)) (hz : z.cells.size = t.sz) (hs0 : 0 < t.sz) (hb0 : 0 < bytes)
    (z0 : α) (hzero : t.T W z0 z.cells.toList []) (h0 : 0 ≤ n) (hl : n.toNat * bytes ≤ 281474976710656) (HB : Below w0.heap.size w0 W)
    (h : ∀ v1 w1 fp, t.Row e w1 v1 (List.replicate n.toNat z0) fp → fp.Nodup → (∀ k ∈ fp, W.heap.size ≤ k) → Below w0.heap.size w0 w1 → W.grownBy w1 none → wpList P ops Q rest (a.put o.dst v1) w1) : wpList P ops Q (o :: rest) a W := by
  refine Kd.R_make t.kd w0.heap.size e hgd hd ty x y ho n hx hy ht z bytes hinfo hz hs0 hb0 (z0, []) (ok := fun k => W.heap.size ≤ k) (okp := fun _ => False) ⟨hzero, fun k hk => by cases hk⟩ (fun _ hk => hk.elim) (Nat.le_refl _) h0 hl HB HB.size ?_
  intro v1 w1 hR hB hg hnew
  have hrow := Row_of hR
  rw [List.map_replicate] at hrow
  have hfoot : foot v1 (List.replicate n.toNat (z0, ([] : List Nat))) = v1.ownBlock.toList := by unfold foot; rw [flat_nils, List.append_nil]
  rw [hfoot] at hrow
  have hok := foot_ok hR
  rw [hfoot] at hok
  exact h v1 w1 _ hrow (by cases v1.ownBlock <;> simp) hok hB hg
end
end Td
end Go.Proofs.Ytmoiacijklkfaaa.G

/- GKValTo -/
/-
  A law's value made the program's, in rows of its own.
-/
namespace Go.Proofs.Ytmoiacijklkfaaa.G
open Go.RowKit Go.Proofs.YtmoiacijklkfaaaW.PrintWords Go.Proofs.YtmoiacijklkfaaaW.PrintLast Go.Proofs.YtmoiacijklkfaaaW.PrintMore
attribute [local go_sem] max2_int min2_int max_two min_two max_three min_three max_four min_four
set_option linter.unusedVariables false
set_option linter.unusedSimpArgs false
def zV : TVal := ⟨0, ⟨#[]⟩, 0, [], []⟩
theorem zV_T (n : Nat) (w : World) : (tV (n + 1)).T w zV [.int .i64 0, .string ⟨#[]⟩, .int .i64 0, .slice none 0 0, .slice none 0 0] [] :=
  tV_mk (x := zV) (f3 := []) (f4 := []) (Td.Row_nil _ _ _) (Td.Row_nil _ _ _)
/-- What a call of toValue leaves. -/
def ToV (n : Nat) : Prop := ∀ (x : LVal) (A3 : Option Addr) (c3 : Nat) (A4 : Option Addr) (c4 : Nat) (w : World), Kd.C Kd.string w A3 x.f3.length x.f3 → x.f3.length ≤ c3 → Kd.C k67 w A4 x.f4.length x.f4 → x.f4.length ≤ c4 → SmL n x →
  Calls Try.prog 47 #[.agg #[.int .i64 x.f0, .string x.f1, .int .i64 x.f2, .slice A3 x.f3.length c3, .slice A4 x.f4.length c4]] w fun e w' => ∃ (v3 v4 : Value) (fp : List Nat), e = .returned (.agg #[.int .i64 x.f0, .string x.f1, .int .i64 x.f2, v3, v4]) ∧
    (tV (n + 1)).T w' (cVN n x) [.int .i64 x.f0, .string x.f1, .int .i64 x.f2, v3, v4] fp ∧ fp.Nodup ∧ (∀ k ∈ fp, w.heap.size ≤ k) ∧ Below w.heap.size w w'
def ToS (n : Nat) : Prop := ∀ (xs : List LVal) (A : Option Addr) (c : Nat) (w : World), Kd.C k67 w A xs.length xs → xs.length ≤ c → xs.length ≤ 1048576 → (∀ x ∈ xs, SmL n x) →
  Calls Try.prog 107 #[.slice A xs.length c] w fun e w' => ∃ (v : Value) (fp : List Nat), e = .returned v ∧ (tV (n + 1)).Row 44 w' v (xs.map (cVN n)) fp ∧ fp.Nodup ∧ (∀ k ∈ fp, w.heap.size ≤ k) ∧ Below w.heap.size w w'
set_option maxHeartbeats 4000000 in
set_option maxRecDepth 100000 in
theorem toS_of (n : Nat) (h : ToV n) : ToS n := by
  intro xs A c w hC hc hl hs
  have HC := Lib.hid hC
  have HV := Lib.hid h
  have HSM := Lib.hid hs
  clear hC h hs
  go_enter Try.func107, Try.ntmps107
  go_wp2_with ((with_reducible refine gate_dst (N := 7) rfl ?_); refine Td.Row_make (tV (n + 1)) (w0 := w) 44 rfl (N := 7) rfl 42 _ _ rfl (xs.length : Int) rfl rfl Try.underlying42 (.agg #[(.int .i64 0), (.string ⟨#[]⟩), (.int .i64 0), (.slice none 0 0), (.slice none 0 0)]) 80 info44 rfl (show 0 < 5 by decide) (by omega) zV (zV_T n _) (by omega) (by omega) (Below.refl _ _) ?_; intro v7 w4 fp hrow hn hf hb hg_; clear hg_; have HRW := Lib.hid hrow; have HN := Lib.hid hn; have HF := Lib.hid hf; have HB := Lib.hid hb; clear hrow hn hf hb)
  go_loopw [4] (fun vi wr => ∃ (i : Nat) (fq : List Nat), i ≤ xs.length ∧ vi = .int .i64 i ∧ Hid ((tV (n + 1)).Row 44 wr v7 ((xs.take i).map (cVN n) ++ List.replicate (xs.length - i) zV) fq) ∧ Hid fq.Nodup ∧ Hid (∀ k ∈ fq, w.heap.size ≤ k) ∧ Hid (Below w.heap.size w wr)) (fun vi _ => xs.length - (intOf vi).toNat)
  case atStart =>
    refine ⟨0, fp, by omega, rfl, ?_, HN, HF, HB⟩
    have h_ := HRW.out
    rw [Int.toNat_natCast] at h_
    rw [List.take_zero, List.map_nil, List.nil_append, Nat.sub_zero]
    exact h_
  case round =>
    clear HRW HN HF HB
    obtain ⟨i, fq, hi, rfl, HR, HN, HF, HB⟩ := hrel
    by_cases hil : i < xs.length
    · obtain ⟨ad, cs, rfl, hcs, hK, hcell⟩ := Kd.C_get HC.out xs[i] (i : Int) (by omega) (by omega)
      simp only [Int.toNat_natCast, getD_at hil] at hK hcell
      obtain ⟨A3, c3, A4, c4, rfl, l3, g3, l4, g4⟩ := k67_open hK
      have d0 := pw_cell_below HB.out (hcell 0 _ rfl)
      have d1 := pw_cell_below HB.out (hcell 1 _ rfl)
      have d2 := pw_cell_below HB.out (hcell 2 _ rfl)
      have d3 := pw_cell_below HB.out (hcell 3 _ rfl)
      have d4 := pw_cell_below HB.out (hcell 4 _ rfl)
      have HV1 := Lib.hid (HV.out xs[i] A3 c3 A4 c4 wr (Kd.C_below g3 HB.out) l3 (Kd.C_below g4 HB.out) l4 (HSM.out _ (List.getElem_mem hil)))
      rw [show k67.sz = 5 from rfl] at d0 d1 d2 d3 d4
      simp only [Nat.add_zero] at d0
      rw [add_field _ _ 1 (by omega)] at d1
      rw [add_field _ _ 2 (by omega)] at d2
      rw [add_field _ _ 3 (by omega)] at d3
      rw [add_field _ _ 4 (by omega)] at d4
      clear hcs hcell hK l3 g3 l4 g4
      have hP : ((xs.take i).map (cVN n)).length = i := by rw [List.length_map, List.length_take]; omega
      have hrep : List.replicate (xs.length - i) zV = zV :: List.replicate (xs.length - (i + 1)) zV := by
        rw [show xs.length - i = (xs.length - (i + 1)) + 1 by omega, List.replicate_succ]
      have HRL := HR.out
      rw [hrep] at HRL
      have hlen : ((xs.take i).map (cVN n) ++ zV :: List.replicate (xs.length - (i + 1)) zV).length = xs.length := by
        rw [List.length_append, List.length_cons, List.length_replicate, hP]; omega
      have HR1 := Lib.hid HRL
      have HPL := Lib.hid hP
      have HLN := Lib.hid hlen
      have hfl : Hid (∀ k ∈ fq, k < wr.heap.size) := Lib.hid (Td.Row_lt HRL)
      clear HR HRL hP hrep hlen
      go_wp2_with fail
      (with_reducible refine HV1.out.mono ?_)
      rintro e w2 ⟨v3, v4, fv, rfl, hT, hvn, hvb, hb2⟩
      obtain ⟨u3, u4, g3, g4, hu, _, hr3, hr4⟩ := tV_open hT
      simp only [List.cons.injEq, true_and, and_true] at hu
      obtain ⟨q0, q1, q2, rfl, rfl⟩ := hu
      clear q0 q1 q2
      obtain ⟨B3, e3, rfl⟩ := Td.Row_slice hr3
      obtain ⟨B4, e4, rfl⟩ := Td.Row_slice hr4
      obtain ⟨g, cap, cs, fq', hv, hcl, hcc, hfz, hg, hglt, hrow', hn', hin'⟩ := Td.Row_put (Td.Row_below HR1.out hb2) HN.out (i := i) (by rw [HLN.out]; exact hil) hT hvn (fun k hk hm => by have h1 := hvb k hk; have h2 := hfl.out k hm; omega)
      have hgw := HF.out g hg
      rw [HLN.out] at hv
      subst hv
      rw [show (tV (n + 1)).sz = 5 from rfl] at hcl hcc hrow'
      obtain ⟨y0, y1, y2, y3, y4, rfl⟩ : ∃ y0 y1 y2 y3 y4, cs = [y0, y1, y2, y3, y4] := by match cs, hcl with | [y0, y1, y2, y3, y4], _ => exact ⟨y0, y1, y2, y3, y4, rfl⟩
      have e0 := hcc 0 y0 rfl
      have e1 := hcc 1 y1 rfl
      have e2 := hcc 2 y2 rfl
      have e3' := hcc 3 y3 rfl
      have e4' := hcc 4 y4 rfl
      have f0 := hfz (i * 5)
      have f1 := hfz (i * 5 + 1)
      have f2 := hfz (i * 5 + 2)
      have f3 := hfz (i * 5 + 3)
      have f4 := hfz (i * 5 + 4)
      simp only [Nat.add_zero] at e0
      have hbw := below_step HB.out hb2
      rw [set_at _ _ _ _ HPL.out] at hrow'
      simp only [World.setCells, Nat.add_assoc, Nat.reduceAdd] at hrow'
      have HRN := Lib.hid hrow'
      have HNN := Lib.hid hn'
      have HFN : Hid (∀ k ∈ fq', w.heap.size ≤ k) := Lib.hid (fun k hk => by
        rcases hin' k hk with h | h
        · exact HF.out k h
        · exact Nat.le_trans HB.out.size (hvb k h))
      have HBN := Lib.hid (below_set (j := i * 5 + 4) (v := .slice (some ⟨0, 0, none⟩) 0 0) hbw hgw)
      have HB2 := Lib.hid hbw
      clear hrow' hn' hin' hcc hfz hcl hT hr3 hr4 hvn hvb hb2 HV1 HR1 d0 d1 d2 d3 d4 hbw HBN
      go_wp2
      go_roundw
      case rel =>
        refine ⟨i + 1, fq', by omega, by go_num, ?_, HNN, HFN, ?_⟩
        · have h_ := HRN.out
          unfold Hid
          rw [List.take_succ_eq_append_getElem hil, List.map_append, List.append_assoc, List.map_cons, List.map_nil, List.singleton_append]
          exact h_
        · exact below_set (below_set (below_set (below_set (below_set HB2.out hgw) hgw) hgw) hgw) hgw
      case measure => simp [intOf]; omega
    · obtain rfl : i = xs.length := by omega
      go_wp2
      go_ret
      have h_ := HR.out
      rw [List.take_length, Nat.sub_self, List.replicate_zero, List.append_nil] at h_
      exact ⟨_, _, rfl, h_, HN.out, HF.out, HB.out⟩
/-- Five cells of one block stored: the others stand. -/
theorem heap5 (w : World) (g : Nat) (a0 a1 a2 a3 a4 : Value) (k : Nat) (h : k ≠ g) : (((((w.setCell ⟨g, 0, none⟩ a0).setCell ⟨g, 1, none⟩ a1).setCell ⟨g, 2, none⟩ a2).setCell ⟨g, 3, none⟩ a3).setCell ⟨g, 4, none⟩ a4).heap[k]? = w.heap[k]? := by
  rw [Below.heap_setCell _ _ _ _ h, Below.heap_setCell _ _ _ _ h, Below.heap_setCell _ _ _ _ h, Below.heap_setCell _ _ _ _ h, Below.heap_setCell _ _ _ _ h]
theorem alloc3 (w : World) (a b c : Obj) : (((w.alloc a).alloc b).alloc c).heap[w.heap.size]? = some a ∧ (((w.alloc a).alloc b).alloc c).heap[w.heap.size + 1]? = some b ∧ (((w.alloc a).alloc b).alloc c).heap[w.heap.size + 1 + 1]? = some c ∧ (((w.alloc a).alloc b).alloc c).heap.size = w.heap.size + 1 + 1 + 1 := by
  have s1 : (w.alloc a).heap.size = w.heap.size + 1 := by simp
  have s2 : ((w.alloc a).alloc b).heap.size = w.heap.size + 1 + 1 := by simp
  have s3 : (((w.alloc a).alloc b).alloc c).heap.size = w.heap.size + 1 + 1 + 1 := by simp
  have h1 := heap_alloc_new w a
  have h2 := heap_alloc_new (w.alloc a) b
  have h3 := heap_alloc_new ((w.alloc a).alloc b) c
  have b2 := below_alloc (Below.refl (w.alloc a).heap.size (w.alloc a)) b
  have b3 := below_alloc (Below.refl ((w.alloc a).alloc b).heap.size ((w.alloc a).alloc b)) c
  rw [s1] at h2
  rw [s2] at h3
  refine ⟨?_, ?_, h3, s3⟩
  · exact (b3.block _ (by omega)).trans ((b2.block _ (by omega)).trans h1)
  · exact (b3.block _ (by omega)).trans h2
theorem blk5 {w : World} {g ty : Nat} {a0 a1 a2 a3 a4 : Value} (h : w.heap[g]? = some (.cells #[a0, a1, a2, a3, a4] ty (0, 0))) (b0 b1 b2 b3 b4 : Value) :
    (((((w.setCell ⟨g, 0, none⟩ b0).setCell ⟨g, 1, none⟩ b1).setCell ⟨g, 2, none⟩ b2).setCell ⟨g, 3, none⟩ b3).setCell ⟨g, 4, none⟩ b4).heap[g]? = some (.cells #[b0, b1, b2, b3, b4] ty (0, 0)) := by
  have h5 := blk_set (blk_set (blk_set (blk_set (blk_set h 0 b0) 1 b1) 2 b2) 3 b3) 4 b4
  simpa using h5
theorem cells5 {w : World} {g ty : Nat} {a0 a1 a2 a3 a4 : Value} (h : w.heap[g]? = some (.cells #[a0, a1, a2, a3, a4] ty (0, 0))) :
    w.cell? ⟨g, 0, none⟩ = some a0 ∧ w.cell? ⟨g, 1, none⟩ = some a1 ∧ w.cell? ⟨g, 2, none⟩ = some a2 ∧ w.cell? ⟨g, 3, none⟩ = some a3 ∧ w.cell? ⟨g, 4, none⟩ = some a4 :=
  ⟨blk_cell h 0, blk_cell h 1, blk_cell h 2, blk_cell h 3, blk_cell h 4⟩
set_option maxHeartbeats 4000000 in
set_option maxRecDepth 100000 in
theorem toV_of (n : Nat) (h : ToS n) : ToV (n + 1) := by
  intro x A3 c3 A4 c4 w g3 l3 g4 l4 hs
  rw [SmL] at hs
  obtain ⟨hs1, hs3, hs4, hsk⟩ := hs
  have hk3 := toStringS_ev x.f3 hs3.1
  obtain ⟨K, hK⟩ := hk3
  have HK := Lib.hid (hK K (Nat.le_refl _))
  obtain ⟨W1, hW1⟩ : ∃ W1, ((w.alloc (.cells #[.int .i64 x.f0, .string x.f1, .int .i64 x.f2, .slice A3 x.f3.length c3, .slice A4 x.f4.length c4] 67)).alloc (.cells #[.int .i64 0, .string ⟨#[]⟩, .int .i64 0, .slice none 0 0, .slice none 0 0] 44)).alloc (.cells #[.int .i64 x.f0, .string x.f1, .int .i64 x.f2, .slice none 0 0, .slice none 0 0] 44) = W1 := ⟨_, rfl⟩
  have hbA := below_alloc (below_alloc (below_alloc (Below.refl w.heap.size w) (.cells #[.int .i64 x.f0, .string x.f1, .int .i64 x.f2, .slice A3 x.f3.length c3, .slice A4 x.f4.length c4] 67)) (.cells #[.int .i64 0, .string ⟨#[]⟩, .int .i64 0, .slice none 0 0, .slice none 0 0] 44)) (.cells #[.int .i64 x.f0, .string x.f1, .int .i64 x.f2, .slice none 0 0, .slice none 0 0] 44)
  obtain ⟨hb0, hb1, hb2, hsz⟩ := alloc3 w (.cells #[.int .i64 x.f0, .string x.f1, .int .i64 x.f2, .slice A3 x.f3.length c3, .slice A4 x.f4.length c4] 67) (.cells #[.int .i64 0, .string ⟨#[]⟩, .int .i64 0, .slice none 0 0, .slice none 0 0] 44) (.cells #[.int .i64 x.f0, .string x.f1, .int .i64 x.f2, .slice none 0 0, .slice none 0 0] 44)
  rw [hW1] at hb0 hb1 hb2 hsz
  rw [hW1] at hbA
  have HW1 := Lib.hid hW1
  have HBA := Lib.hid hbA
  have HSZ := Lib.hid hsz
  have HB0 := Lib.hid hb0
  have HB1 := Lib.hid hb1
  have HB2 := Lib.hid hb2
  have HS := Lib.hid h
  have G3 := Lib.hid (Kd.C_below g3 hbA)
  have G4 := Lib.hid g4
  have HSK := Lib.hid hsk
  clear hK g3 g4 h hsk hs3 hs1 hW1 hbA hsz hb0 hb1 hb2
  go_enter Try.func47, Try.ntmps47
  go_wp2_with fail
  rw [HW1.out]
  refine (laws_toStringS.calls K A3 c3 x.f3 x.f3 W1 G3.out l3 HK.out).mono ?_
  rintro e w2 ⟨v3, rfl, hr3, hc2⟩
  have hr3' := Td.Row_of_R hr3
  have hr3b := Kd.R_base hr3
  obtain ⟨B3, e3, rfl⟩ := Kd.R_slice hr3
  have z0 := (hc2.block _ (blk_lt HB0.out)).trans HB0.out
  have z1 := (hc2.block _ (blk_lt HB1.out)).trans HB1.out
  have z2 := (hc2.block _ (blk_lt HB2.out)).trans HB2.out
  obtain ⟨_, _, _, _, d4⟩ := cells5 z0
  obtain ⟨_, _, _, c3', _⟩ := cells5 z2
  have f3 := blk_frozen z2 3
  obtain ⟨W2, hW2⟩ : ∃ W2, w2.setCell ⟨w.heap.size + 1 + 1, 3, none⟩ (.slice B3 x.f3.length e3) = W2 := ⟨_, rfl⟩
  have hs1 := HSZ.out
  have q1 := blk_far z1 (p := ⟨w.heap.size + 1 + 1, 3, none⟩) (by simp) (.slice B3 x.f3.length e3)
  have q2 := blk_set z2 3 (.slice B3 x.f3.length e3)
  have cb := below_step HBA.out hc2
  have cb2 := below_set (j := 3) (v := .slice B3 x.f3.length e3) cb (show w.heap.size ≤ w.heap.size + 1 + 1 by omega)
  have hrw : Td.string.Row 9 (w2.setCell ⟨w.heap.size + 1 + 1, 3, none⟩ (.slice B3 x.f3.length e3)) (.slice B3 x.f3.length e3) x.f3 (Value.slice B3 x.f3.length e3).ownBlock.toList :=
    Td.Row_move hr3' (fun k hk => Below.heap_setCell _ _ _ _ (by have := hr3b k (by simpa using hk); show k ≠ w.heap.size + 1 + 1; omega))
  rw [hW2] at q1 q2 cb2 hrw
  have HW2 := Lib.hid hW2
  have Q1 := Lib.hid q1
  have Q2 := Lib.hid q2
  have CB := Lib.hid cb2
  have R3 := Lib.hid hrw
  have R3B := Lib.hid hr3b
  have HSV := Lib.hid (HS.out x.f4 A4 c4 W2 (Kd.C_below G4.out cb2) l4 hs4 HSK.out)
  have HSZ2 : Hid (W1.heap.size = w.heap.size + 1 + 1 + 1) := hs1
  have HW2S : Hid (w.heap.size + 1 + 1 + 1 ≤ W2.heap.size) := Lib.hid (by
    have h1 := hc2.size
    have h2 : W2.heap.size = w2.heap.size := by rw [← hW2]; simp [World.setCell]
    omega)
  clear hr3 hr3' hr3b hc2 z0 z1 z2 HB0 HB1 HB2 G4 G3 hW2 q1 q2 cb cb2 hrw hs1 HSZ
  go_wp2_with fail
  rw [HW2.out]
  (with_reducible refine HSV.out.mono ?_)
  rintro e w3 ⟨v4, fp4, rfl, hr4, hn4, hb4, hc3⟩
  have z1 := (hc3.block _ (blk_lt Q1.out)).trans Q1.out
  have z2 := (hc3.block _ (blk_lt Q2.out)).trans Q2.out
  obtain ⟨B4, e4, rfl⟩ := Td.Row_slice hr4
  simp only [List.setIfInBounds_toArray, List.set_cons_succ, List.set_cons_zero] at z2
  obtain ⟨a0, a1, a2, a3, a4⟩ := cells5 z1
  obtain ⟨b0, b1, b2, b3, b4⟩ := cells5 z2
  have f0 := blk_frozen z1 0
  have f1 := blk_frozen z1 1
  have f2 := blk_frozen z1 2
  have f3' := blk_frozen z1 3
  have f4 := blk_frozen z1 4
  have f24 := blk_frozen z2 4
  have R4 := Lib.hid hr4
  have N4 := Lib.hid hn4
  have F4 := Lib.hid hb4
  have C3 := Lib.hid (below_step CB.out hc3)
  have R33 := Lib.hid (Td.Row_below R3.out hc3)
  have L3 := Lib.hid (Td.Row_lt R3.out)
  have Z1 := Lib.hid (blk5 (blk_far z1 (p := ⟨w.heap.size + 1 + 1, 4, none⟩) (by simp) (.slice B4 x.f4.length e4)) (.int .i64 x.f0) (.string x.f1) (.int .i64 x.f2) (.slice B3 x.f3.length e3) (.slice B4 x.f4.length e4))
  clear hr4 hn4 hb4 hc3 z1 z2 Q1 Q2 R3 CB HSV d4 f3 c3'
  go_wp2
  refine bodyPost_ret (results_cell_row rfl _ _ (w.heap.size + 1) 44 #[.int .i64 x.f0, .string x.f1, .int .i64 x.f2, .slice B3 x.f3.length e3, .slice B4 x.f4.length e4] (0, 0) _ rfl Z1.out Try.underlying44 rfl (by kernel_rfl)) rfl ?_
  have hw2 := HW2S.out
  have l3' : ∀ k ∈ (Value.slice B3 x.f3.length e3).ownBlock.toList, w.heap.size + 1 + 1 + 1 ≤ k ∧ k < W2.heap.size := fun k hk => by
    have h1 := R3B.out k (by simpa using hk)
    have h2 := L3.out k hk
    have h3 := HSZ2.out
    omega
  have l4' : ∀ k ∈ fp4, W2.heap.size ≤ k := F4.out
  have mv : ∀ k, w.heap.size + 1 + 1 + 1 ≤ k → ((((((w3.setCell ⟨w.heap.size + 1 + 1, 4, none⟩ (.slice B4 x.f4.length e4)).setCell ⟨w.heap.size + 1, 0, none⟩ (.int .i64 x.f0)).setCell ⟨w.heap.size + 1, 1, none⟩ (.string x.f1)).setCell ⟨w.heap.size + 1, 2, none⟩ (.int .i64 x.f2)).setCell ⟨w.heap.size + 1, 3, none⟩ (.slice B3 x.f3.length e3)).setCell ⟨w.heap.size + 1, 4, none⟩ (.slice B4 x.f4.length e4)).heap[k]? = w3.heap[k]? := fun k hk => by
    rw [heap5 _ _ _ _ _ _ _ k (by omega), Below.heap_setCell _ _ _ _ (show k ≠ w.heap.size + 1 + 1 by omega)]
  have r4 := R4.out
  simp only [List.length_map] at r4
  have hb := C3.out
  refine ⟨_, _, (Value.slice B3 x.f3.length e3).ownBlock.toList ++ fp4, rfl, tV_mk (x := cVN (n + 1) x) (Td.Row_move R33.out (fun k hk => mv k (l3' k hk).1)) (Td.Row_move r4 (fun k hk => mv k (by have := l4' k hk; omega))), ?_, ?_, ?_⟩
  · rw [List.nodup_append]
    refine ⟨by cases (Value.slice B3 x.f3.length e3).ownBlock <;> simp, N4.out, fun a ha b hb2 hab => ?_⟩
    have h1 := (l3' a ha).2
    have h2 := l4' b hb2
    omega
  · intro k hk
    rcases List.mem_append.1 hk with hk | hk
    · have := (l3' k hk).1; omega
    · have := l4' k hk; omega
  · exact below_set (below_set (below_set (below_set (below_set (below_set hb (by omega)) (by omega)) (by omega)) (by omega)) (by omega)) (by omega)
theorem toV_all : ∀ n, ToV n
  | 0 => fun x A3 c3 A4 c4 w g3 l3 g4 l4 hs => by rw [SmL] at hs; exact hs.elim
  | n + 1 => toV_of n (toS_of n (toV_all n))
end Go.Proofs.Ytmoiacijklkfaaa.G

/- G128 -/
-- Laid by wip/g/gprint.py out of the translation, by the kit's print program. Lean checks it.
namespace Go.Proofs.Ytmoiacijklkfaaa.G
open Go.RowKit Go.Proofs.YtmoiacijklkfaaaW.PrintWords Go.Proofs.YtmoiacijklkfaaaW.PrintLast Go.Proofs.YtmoiacijklkfaaaW.PrintMore
attribute [local go_sem] max2_int min2_int max_two min_two max_three min_three max_four min_four   -- for this text's walks alone
set_option linter.unusedVariables false
set_option linter.unusedSimpArgs false

/-! ### slices_Clone_sstring_string: function 128 -/
end Go.Proofs.Ytmoiacijklkfaaa.G

/- GKValCopy -/
/-
  copyValue: a copy in rows of its own.
-/
namespace Go.Proofs.Ytmoiacijklkfaaa.G
open Go.RowKit Go.Proofs.YtmoiacijklkfaaaW.PrintWords Go.Proofs.YtmoiacijklkfaaaW.PrintLast Go.Proofs.YtmoiacijklkfaaaW.PrintMore
attribute [local go_sem] max2_int min2_int max_two min_two max_three min_three max_four min_four
set_option linter.unusedVariables false
set_option linter.unusedSimpArgs false
theorem alloc2 (w : World) (a b : Obj) : ((w.alloc a).alloc b).heap[w.heap.size]? = some a ∧ ((w.alloc a).alloc b).heap[w.heap.size + 1]? = some b ∧ ((w.alloc a).alloc b).heap.size = w.heap.size + 1 + 1 := by
  have s1 : (w.alloc a).heap.size = w.heap.size + 1 := by simp
  have s2 : ((w.alloc a).alloc b).heap.size = w.heap.size + 1 + 1 := by simp
  have h1 := heap_alloc_new w a
  have h2 := heap_alloc_new (w.alloc a) b
  have b2 := below_alloc (Below.refl (w.alloc a).heap.size (w.alloc a)) b
  rw [s1] at h2
  exact ⟨(b2.block _ (by omega)).trans h1, h2, s2⟩
end Go.Proofs.Ytmoiacijklkfaaa.G

/- GKObjCopy -/
/-
  copyObj: a copy in rows of its own.
-/
namespace Go.Proofs.Ytmoiacijklkfaaa.G
open Go.RowKit Go.Proofs.YtmoiacijklkfaaaW.PrintWords Go.Proofs.YtmoiacijklkfaaaW.PrintLast Go.Proofs.YtmoiacijklkfaaaW.PrintMore
attribute [local go_sem] max2_int min2_int max_two min_two max_three min_three max_four min_four
set_option linter.unusedVariables false
set_option linter.unusedSimpArgs false
/-- The cells of an object. -/
def obC (x : IObj) (v6 v10 v11 v15 v16 : Value) : Array Value := #[.int .i64 x.f0, .string x.f1, .int .i64 x.f2, .int .i64 x.f3, .int .i64 x.f4, .bool x.f5, v6, .int .i64 x.f7.f0, .string x.f7.f1, .int .i64 x.f7.f2, v10, v11, .int .i64 x.f8.f0, .string x.f8.f1, .int .i64 x.f8.f2, v15, v16]
def obZ : Array Value := #[.int .i64 0, .string ⟨#[]⟩, .int .i64 0, .int .i64 0, .int .i64 0, .bool false, .slice none 0 0, .int .i64 0, .string ⟨#[]⟩, .int .i64 0, .slice none 0 0, .slice none 0 0, .int .i64 0, .string ⟨#[]⟩, .int .i64 0, .slice none 0 0, .slice none 0 0]
section
variable {w : World} {g : Nat} {x : IObj} {v6 v10 v11 v15 v16 : Value}
theorem ob_cell (h : w.heap[g]? = some (.cells (obC x v6 v10 v11 v15 v16) 46 (0, 0))) (j : Nat) {u : Value} (hu : (obC x v6 v10 v11 v15 v16)[j]? = some u) : w.cell? ⟨g, j, none⟩ = some u := (blk_cell h j).trans hu
theorem ob_c6 (h : w.heap[g]? = some (.cells (obC x v6 v10 v11 v15 v16) 46 (0, 0))) : w.cell? ⟨g, 6, none⟩ = some v6 := ob_cell h 6 rfl
theorem ob_c7 (h : w.heap[g]? = some (.cells (obC x v6 v10 v11 v15 v16) 46 (0, 0))) : w.cell? ⟨g, 7, none⟩ = some (.int .i64 x.f7.f0) ∧ w.cell? ⟨g, 8, none⟩ = some (.string x.f7.f1) ∧ w.cell? ⟨g, 9, none⟩ = some (.int .i64 x.f7.f2) ∧ w.cell? ⟨g, 10, none⟩ = some v10 ∧ w.cell? ⟨g, 11, none⟩ = some v11 := ⟨ob_cell h 7 rfl, ob_cell h 8 rfl, ob_cell h 9 rfl, ob_cell h 10 rfl, ob_cell h 11 rfl⟩
theorem ob_c8 (h : w.heap[g]? = some (.cells (obC x v6 v10 v11 v15 v16) 46 (0, 0))) : w.cell? ⟨g, 12, none⟩ = some (.int .i64 x.f8.f0) ∧ w.cell? ⟨g, 13, none⟩ = some (.string x.f8.f1) ∧ w.cell? ⟨g, 14, none⟩ = some (.int .i64 x.f8.f2) ∧ w.cell? ⟨g, 15, none⟩ = some v15 ∧ w.cell? ⟨g, 16, none⟩ = some v16 := ⟨ob_cell h 12 rfl, ob_cell h 13 rfl, ob_cell h 14 rfl, ob_cell h 15 rfl, ob_cell h 16 rfl⟩
theorem ob_set6 (h : w.heap[g]? = some (.cells (obC x v6 v10 v11 v15 v16) 46 (0, 0))) (u : Value) : (w.setCell ⟨g, 6, none⟩ u).heap[g]? = some (.cells (obC x u v10 v11 v15 v16) 46 (0, 0)) := blk_set h 6 u
theorem ob_set7 (h : w.heap[g]? = some (.cells (obC x v6 v10 v11 v15 v16) 46 (0, 0))) (y : TVal) (u10 u11 : Value) : (((((w.setCell ⟨g, 7, none⟩ (.int .i64 y.f0)).setCell ⟨g, 8, none⟩ (.string y.f1)).setCell ⟨g, 9, none⟩ (.int .i64 y.f2)).setCell ⟨g, 10, none⟩ u10).setCell ⟨g, 11, none⟩ u11).heap[g]? = some (.cells (obC { x with f7 := y } v6 u10 u11 v15 v16) 46 (0, 0)) :=
  blk_set (blk_set (blk_set (blk_set (blk_set h 7 (.int .i64 y.f0)) 8 (.string y.f1)) 9 (.int .i64 y.f2)) 10 u10) 11 u11
theorem ob_set8 (h : w.heap[g]? = some (.cells (obC x v6 v10 v11 v15 v16) 46 (0, 0))) (y : TVal) (u15 u16 : Value) : (((((w.setCell ⟨g, 12, none⟩ (.int .i64 y.f0)).setCell ⟨g, 13, none⟩ (.string y.f1)).setCell ⟨g, 14, none⟩ (.int .i64 y.f2)).setCell ⟨g, 15, none⟩ u15).setCell ⟨g, 16, none⟩ u16).heap[g]? = some (.cells (obC { x with f8 := y } v6 v10 v11 u15 u16) 46 (0, 0)) :=
  blk_set (blk_set (blk_set (blk_set (blk_set h 12 (.int .i64 y.f0)) 13 (.string y.f1)) 14 (.int .i64 y.f2)) 15 u15) 16 u16
end
theorem heap5g (w : World) (g : Nat) (j0 j1 j2 j3 j4 : Nat) (a0 a1 a2 a3 a4 : Value) (k : Nat) (hk : k ≠ g) : (((((w.setCell ⟨g, j0, none⟩ a0).setCell ⟨g, j1, none⟩ a1).setCell ⟨g, j2, none⟩ a2).setCell ⟨g, j3, none⟩ a3).setCell ⟨g, j4, none⟩ a4).heap[k]? = w.heap[k]? := by
  rw [Below.heap_setCell _ _ _ _ hk, Below.heap_setCell _ _ _ _ hk, Below.heap_setCell _ _ _ _ hk, Below.heap_setCell _ _ _ _ hk, Below.heap_setCell _ _ _ _ hk]
theorem tV_ones {n : Nat} {w : World} {y : TVal} {a0 a1 a2 v3 v4 : Value} {fp : List Nat} (h : (tV n).T w y [a0, a1, a2, v3, v4] fp) : v3.oneCell' = true ∧ v4.oneCell' = true := ⟨(tV n).T_one h v3 (by simp), (tV n).T_one h v4 (by simp)⟩
theorem ob_one {x : IObj} {v6 v10 v11 v15 v16 : Value} (h6 : v6.oneCell' = true) (h10 : v10.oneCell' = true) (h11 : v11.oneCell' = true) (h15 : v15.oneCell' = true) (h16 : v16.oneCell' = true) : ∀ u ∈ (obC x v6 v10 v11 v15 v16).toList, u.oneCell' = true := by
  intro u hu
  simp only [obC, List.mem_cons, List.not_mem_nil, or_false] at hu
  rcases hu with h | h | h | h | h | h | h | h | h | h | h | h | h | h | h | h | h <;> (rw [h]; first | rfl | assumption)
end Go.Proofs.Ytmoiacijklkfaaa.G

/- GKObjTo -/
/-
  toObj: a law's object as one of the program's, in rows of its own.
-/
namespace Go.Proofs.Ytmoiacijklkfaaa.G
open Go.RowKit Go.Proofs.YtmoiacijklkfaaaW.PrintWords Go.Proofs.YtmoiacijklkfaaaW.PrintLast Go.Proofs.YtmoiacijklkfaaaW.PrintMore
attribute [local go_sem] max2_int min2_int max_two min_two max_three min_three max_four min_four
set_option linter.unusedVariables false
set_option linter.unusedSimpArgs false
abbrev LObj := S121
def cOb (n : Nat) (x : LObj) : IObj := ⟨x.f0, x.f1, x.f2, x.f3, x.f4, x.f5, x.f6, cVN n x.f7, cVN n x.f8⟩
def SmLO (n : Nat) (x : LObj) : Prop := (x.f6.length ≤ 1048576 ∧ ∀ y ∈ x.f6, y.size ≤ 1048576) ∧ SmL n x.f7 ∧ SmL n x.f8
/-- The part that is copied first. -/
def obH (x : LObj) : IObj := ⟨x.f0, x.f1, x.f2, x.f3, x.f4, x.f5, [], ⟨0, ⟨#[]⟩, 0, [], []⟩, ⟨0, ⟨#[]⟩, 0, [], []⟩⟩
/-- The cells of a law's object. -/
def lobC (x : LObj) (v6 v10 v11 v15 v16 : Value) : Array Value := #[.int .i64 x.f0, .string x.f1, .int .i64 x.f2, .int .i64 x.f3, .int .i64 x.f4, .bool x.f5, v6, .int .i64 x.f7.f0, .string x.f7.f1, .int .i64 x.f7.f2, v10, v11, .int .i64 x.f8.f0, .string x.f8.f1, .int .i64 x.f8.f2, v15, v16]
section
variable {w : World} {g : Nat} {x : LObj} {v6 v10 v11 v15 v16 : Value}
theorem lob_c7 (h : w.heap[g]? = some (.cells (lobC x v6 v10 v11 v15 v16) 121 (0, 0))) : w.cell? ⟨g, 7, none⟩ = some (.int .i64 x.f7.f0) ∧ w.cell? ⟨g, 8, none⟩ = some (.string x.f7.f1) ∧ w.cell? ⟨g, 9, none⟩ = some (.int .i64 x.f7.f2) ∧ w.cell? ⟨g, 10, none⟩ = some v10 ∧ w.cell? ⟨g, 11, none⟩ = some v11 := ⟨(blk_cell h 7).trans rfl, (blk_cell h 8).trans rfl, (blk_cell h 9).trans rfl, (blk_cell h 10).trans rfl, (blk_cell h 11).trans rfl⟩
theorem lob_c8 (h : w.heap[g]? = some (.cells (lobC x v6 v10 v11 v15 v16) 121 (0, 0))) : w.cell? ⟨g, 12, none⟩ = some (.int .i64 x.f8.f0) ∧ w.cell? ⟨g, 13, none⟩ = some (.string x.f8.f1) ∧ w.cell? ⟨g, 14, none⟩ = some (.int .i64 x.f8.f2) ∧ w.cell? ⟨g, 15, none⟩ = some v15 ∧ w.cell? ⟨g, 16, none⟩ = some v16 := ⟨(blk_cell h 12).trans rfl, (blk_cell h 13).trans rfl, (blk_cell h 14).trans rfl, (blk_cell h 15).trans rfl, (blk_cell h 16).trans rfl⟩
end
theorem alloc3g (w : World) (a b c : Obj) : (((w.alloc a).alloc b).alloc c).heap[w.heap.size]? = some a ∧ (((w.alloc a).alloc b).alloc c).heap[w.heap.size + 1]? = some b ∧ (((w.alloc a).alloc b).alloc c).heap[w.heap.size + 1 + 1]? = some c ∧ (((w.alloc a).alloc b).alloc c).heap.size = w.heap.size + 1 + 1 + 1 := by
  obtain ⟨h0, h1, hs⟩ := alloc2 w a b
  have h2 := heap_alloc_new ((w.alloc a).alloc b) c
  have hb := below_alloc (Below.refl ((w.alloc a).alloc b).heap.size ((w.alloc a).alloc b)) c
  rw [hs] at h2
  exact ⟨(hb.block _ (by omega)).trans h0, (hb.block _ (by omega)).trans h1, h2, by rw [World.size_alloc, hs]⟩
set_option maxHeartbeats 16000000 in
set_option maxRecDepth 100000 in
theorem toO_calls (m : Nat) (x : LObj) (cs : List Value) (w : World) (hk : k121.K w x cs) (hs : SmLO (m + 1) x) :
    Calls Try.prog 115 #[.agg cs.toArray] w fun e w' => ∃ (cs' : List Value) (fp : List Nat), e = .returned (.agg cs'.toArray) ∧ (tO (m + 2)).T w' (cOb (m + 1) x) cs' fp ∧ fp.Nodup ∧ (∀ k ∈ fp, w.heap.size ≤ k) ∧ Below w.heap.size w w' := by
  obtain ⟨A6, c6, A10, c10, A11, c11, A15, c15, A16, c16, rfl, l6, g6, l10, g10, l11, g11, l15, g15, l16, g16⟩ := k121_open hk
  obtain ⟨hx6, hx7, hx8⟩ := hs
  obtain ⟨K, hK⟩ := toStringS_ev x.f6 hx6.1
  have HK := Lib.hid (hK K (Nat.le_refl _))
  obtain ⟨W2, hW2⟩ : ∃ W2, (((w.alloc (.cells #[.int .i64 x.f0, .string x.f1, .int .i64 x.f2, .int .i64 x.f3, .int .i64 x.f4, .bool x.f5, .slice A6 x.f6.length c6, .int .i64 x.f7.f0, .string x.f7.f1, .int .i64 x.f7.f2, .slice A10 x.f7.f3.length c10, .slice A11 x.f7.f4.length c11, .int .i64 x.f8.f0, .string x.f8.f1, .int .i64 x.f8.f2, .slice A15 x.f8.f3.length c15, .slice A16 x.f8.f4.length c16] 121)).alloc (.cells #[.int .i64 0, .string ⟨#[]⟩, .int .i64 0, .int .i64 0, .int .i64 0, .bool false, .slice none 0 0, .int .i64 0, .string ⟨#[]⟩, .int .i64 0, .slice none 0 0, .slice none 0 0, .int .i64 0, .string ⟨#[]⟩, .int .i64 0, .slice none 0 0, .slice none 0 0] 46)).alloc (.cells #[.int .i64 x.f0, .string x.f1, .int .i64 x.f2, .int .i64 x.f3, .int .i64 x.f4, .bool x.f5, .slice none 0 0, .int .i64 0, .string ⟨#[]⟩, .int .i64 0, .slice none 0 0, .slice none 0 0, .int .i64 0, .string ⟨#[]⟩, .int .i64 0, .slice none 0 0, .slice none 0 0] 46)) = W2 := ⟨_, rfl⟩
  have cb2 := below_alloc (below_alloc (below_alloc (Below.refl w.heap.size w) (.cells #[.int .i64 x.f0, .string x.f1, .int .i64 x.f2, .int .i64 x.f3, .int .i64 x.f4, .bool x.f5, .slice A6 x.f6.length c6, .int .i64 x.f7.f0, .string x.f7.f1, .int .i64 x.f7.f2, .slice A10 x.f7.f3.length c10, .slice A11 x.f7.f4.length c11, .int .i64 x.f8.f0, .string x.f8.f1, .int .i64 x.f8.f2, .slice A15 x.f8.f3.length c15, .slice A16 x.f8.f4.length c16] 121)) (.cells #[.int .i64 0, .string ⟨#[]⟩, .int .i64 0, .int .i64 0, .int .i64 0, .bool false, .slice none 0 0, .int .i64 0, .string ⟨#[]⟩, .int .i64 0, .slice none 0 0, .slice none 0 0, .int .i64 0, .string ⟨#[]⟩, .int .i64 0, .slice none 0 0, .slice none 0 0] 46)) (.cells #[.int .i64 x.f0, .string x.f1, .int .i64 x.f2, .int .i64 x.f3, .int .i64 x.f4, .bool x.f5, .slice none 0 0, .int .i64 0, .string ⟨#[]⟩, .int .i64 0, .slice none 0 0, .slice none 0 0, .int .i64 0, .string ⟨#[]⟩, .int .i64 0, .slice none 0 0, .slice none 0 0] 46)
  obtain ⟨hb0, hb1, hb2, hsz⟩ := alloc3g w (.cells #[.int .i64 x.f0, .string x.f1, .int .i64 x.f2, .int .i64 x.f3, .int .i64 x.f4, .bool x.f5, .slice A6 x.f6.length c6, .int .i64 x.f7.f0, .string x.f7.f1, .int .i64 x.f7.f2, .slice A10 x.f7.f3.length c10, .slice A11 x.f7.f4.length c11, .int .i64 x.f8.f0, .string x.f8.f1, .int .i64 x.f8.f2, .slice A15 x.f8.f3.length c15, .slice A16 x.f8.f4.length c16] 121) (.cells #[.int .i64 0, .string ⟨#[]⟩, .int .i64 0, .int .i64 0, .int .i64 0, .bool false, .slice none 0 0, .int .i64 0, .string ⟨#[]⟩, .int .i64 0, .slice none 0 0, .slice none 0 0, .int .i64 0, .string ⟨#[]⟩, .int .i64 0, .slice none 0 0, .slice none 0 0] 46) (.cells #[.int .i64 x.f0, .string x.f1, .int .i64 x.f2, .int .i64 x.f3, .int .i64 x.f4, .bool x.f5, .slice none 0 0, .int .i64 0, .string ⟨#[]⟩, .int .i64 0, .slice none 0 0, .slice none 0 0, .int .i64 0, .string ⟨#[]⟩, .int .i64 0, .slice none 0 0, .slice none 0 0] 46)
  rw [hW2] at hb0 hb1 hb2 hsz cb2
  have HW2 := Lib.hid hW2
  have Q0 : Hid (W2.heap[w.heap.size]? = some (.cells (lobC x (.slice A6 x.f6.length c6) (.slice A10 x.f7.f3.length c10) (.slice A11 x.f7.f4.length c11) (.slice A15 x.f8.f3.length c15) (.slice A16 x.f8.f4.length c16)) 121 (0, 0))) := Lib.hid hb0
  have Q1 : Hid (W2.heap[w.heap.size + 1]? = some (.cells obZ 46 (0, 0))) := Lib.hid hb1
  have Q2 : Hid (W2.heap[w.heap.size + 1 + 1]? = some (.cells (obC (obH x) (.slice none 0 0) (.slice none 0 0) (.slice none 0 0) (.slice none 0 0) (.slice none 0 0)) 46 (0, 0))) := Lib.hid hb2
  have CB2 := Lib.hid cb2
  have S2 : Hid (w.heap.size + 1 + 1 + 1 ≤ W2.heap.size) := Lib.hid (by omega)
  have G6 := Lib.hid (Kd.C_below g6 cb2)
  have G10 := Lib.hid g10
  have G11 := Lib.hid g11
  have G15 := Lib.hid g15
  have G16 := Lib.hid g16
  have H7 := Lib.hid hx7
  have H8 := Lib.hid hx8
  clear hk hK hx6 hx7 hx8 g6 g10 g11 g15 g16 hb0 hb1 hb2 hsz hW2 cb2
  go_enter Try.func115, Try.ntmps115
  go_wp2_with fail
  rw [HW2.out]
  clear HW2
  refine (laws_toStringS.calls K A6 c6 x.f6 x.f6 W2 G6.out l6 HK.out).mono ?_
  rintro e w3 ⟨v6, rfl, hr6, hc3⟩
  have hr6' := Td.Row_of_R hr6
  have hr6b := Kd.R_base hr6
  obtain ⟨B6, e6, rfl⟩ := Kd.R_slice hr6
  have z0 := (hc3.block _ (blk_lt Q0.out)).trans Q0.out
  have z1 := (hc3.block _ (blk_lt Q1.out)).trans Q1.out
  have z2 := (hc3.block _ (blk_lt Q2.out)).trans Q2.out
  have d6 := ob_c6 z2
  have f6 := blk_frozen z2 6
  obtain ⟨d7, d8, d9, d10, d11⟩ := lob_c7 z0
  obtain ⟨W3, hW3⟩ : ∃ W3, w3.setCell ⟨w.heap.size + 1 + 1, 6, none⟩ (.slice B6 x.f6.length e6) = W3 := ⟨_, rfl⟩
  have q2 := ob_set6 z2 (.slice B6 x.f6.length e6)
  have hle : w.heap.size ≤ w.heap.size + 1 + 1 := by omega
  have cb3 := below_set (j := 6) (v := .slice B6 x.f6.length e6) (below_step CB2.out hc3) hle
  have far3 : ∀ k, k ≠ w.heap.size + 1 + 1 → (w3.setCell ⟨w.heap.size + 1 + 1, 6, none⟩ (.slice B6 x.f6.length e6)).heap[k]? = w3.heap[k]? := fun k hk => Below.heap_setCell _ _ _ _ hk
  have hss : (w3.setCell ⟨w.heap.size + 1 + 1, 6, none⟩ (.slice B6 x.f6.length e6)).heap.size = w3.heap.size := by simp [World.setCell]
  rw [hW3] at q2 cb3 far3 hss
  have hs2 := S2.out
  have hrw : Td.string.Row 9 W3 (.slice B6 x.f6.length e6) x.f6 (Value.slice B6 x.f6.length e6).ownBlock.toList := Td.Row_move hr6' (fun k hk => far3 k (by have := hr6b k (by simpa using hk); omega))
  have R6B : Hid (∀ k ∈ (Value.slice B6 x.f6.length e6).ownBlock.toList, w.heap.size + 1 + 1 + 1 ≤ k ∧ k < W3.heap.size) := Lib.hid (fun k hk => by
    have h1 := hr6b k (by simpa using hk)
    have h2 := Td.Row_lt hrw k hk
    omega)
  have S3 : Hid (w.heap.size + 1 + 1 + 1 ≤ W3.heap.size) := Lib.hid (by have := hc3.size; omega)
  have HW3 := Lib.hid hW3
  have P0 := Lib.hid ((far3 w.heap.size (by omega)).trans z0)
  have P1 := Lib.hid ((far3 (w.heap.size + 1) (by omega)).trans z1)
  have P2 := Lib.hid q2
  have CB3 := Lib.hid cb3
  have R6 := Lib.hid hrw
  clear hr6 hr6' hr6b hc3 z0 z1 z2 Q0 Q1 Q2 G6 hW3 q2 cb3 hrw far3 hss hs2 CB2 S2 HK hle
  go_wp2_with fail
  rw [HW3.out]
  clear d6 d7 d8 d9 d10 d11 f6 HW3
  refine (toV_all (m + 1) x.f7 A10 c10 A11 c11 W3 (Kd.C_below G10.out CB3.out) l10 (Kd.C_below G11.out CB3.out) l11 H7.out).mono ?_
  rintro e w4 ⟨u10, u11, fS, rfl, hTS, hnS, hbS, hb4⟩
  have z0 := (hb4.block _ (blk_lt P0.out)).trans P0.out
  have z1 := (hb4.block _ (blk_lt P1.out)).trans P1.out
  have z2 := (hb4.block _ (blk_lt P2.out)).trans P2.out
  obtain ⟨d7, d8, d9, d10, d11⟩ := ob_c7 z2
  obtain ⟨d12, d13, d14, d15, d16⟩ := lob_c8 z0
  have f7 := blk_frozen z2 7
  have f8 := blk_frozen z2 8
  have f9 := blk_frozen z2 9
  have f10 := blk_frozen z2 10
  have f11 := blk_frozen z2 11
  obtain ⟨o10, o11⟩ := tV_ones hTS
  have r10 := fun (a_ : Addr) (W_ : World) (q_ : Mode) => run_store Try.prog W_ a_ u10 q_ o10
  have r11 := fun (a_ : Addr) (W_ : World) (q_ : Mode) => run_store Try.prog W_ a_ u11 q_ o11
  obtain ⟨W4, hW4⟩ : ∃ W4, ((((w4.setCell ⟨w.heap.size + 1 + 1, 7, none⟩ (.int .i64 x.f7.f0)).setCell ⟨w.heap.size + 1 + 1, 8, none⟩ (.string x.f7.f1)).setCell ⟨w.heap.size + 1 + 1, 9, none⟩ (.int .i64 x.f7.f2)).setCell ⟨w.heap.size + 1 + 1, 10, none⟩ u10).setCell ⟨w.heap.size + 1 + 1, 11, none⟩ u11 = W4 := ⟨_, rfl⟩
  have q2 := ob_set7 z2 (cVN (m + 1) x.f7) u10 u11
  have far4 : ∀ k, k ≠ w.heap.size + 1 + 1 → (((((w4.setCell ⟨w.heap.size + 1 + 1, 7, none⟩ (.int .i64 x.f7.f0)).setCell ⟨w.heap.size + 1 + 1, 8, none⟩ (.string x.f7.f1)).setCell ⟨w.heap.size + 1 + 1, 9, none⟩ (.int .i64 x.f7.f2)).setCell ⟨w.heap.size + 1 + 1, 10, none⟩ u10).setCell ⟨w.heap.size + 1 + 1, 11, none⟩ u11).heap[k]? = w4.heap[k]? := fun k hk => heap5g _ _ _ _ _ _ _ _ _ _ _ _ k hk
  have hss : (((((w4.setCell ⟨w.heap.size + 1 + 1, 7, none⟩ (.int .i64 x.f7.f0)).setCell ⟨w.heap.size + 1 + 1, 8, none⟩ (.string x.f7.f1)).setCell ⟨w.heap.size + 1 + 1, 9, none⟩ (.int .i64 x.f7.f2)).setCell ⟨w.heap.size + 1 + 1, 10, none⟩ u10).setCell ⟨w.heap.size + 1 + 1, 11, none⟩ u11).heap.size = w4.heap.size := by simp [World.setCell]
  have hle : w.heap.size ≤ w.heap.size + 1 + 1 := by omega
  have cb4 := below_set (j := 11) (v := u11) (below_set (j := 10) (v := u10) (below_set (j := 9) (v := .int .i64 x.f7.f2) (below_set (j := 8) (v := .string x.f7.f1) (below_set (j := 7) (v := .int .i64 x.f7.f0) (below_step CB3.out hb4) hle) hle) hle) hle) hle
  have q2' : (((((w4.setCell ⟨w.heap.size + 1 + 1, 7, none⟩ (.int .i64 x.f7.f0)).setCell ⟨w.heap.size + 1 + 1, 8, none⟩ (.string x.f7.f1)).setCell ⟨w.heap.size + 1 + 1, 9, none⟩ (.int .i64 x.f7.f2)).setCell ⟨w.heap.size + 1 + 1, 10, none⟩ u10).setCell ⟨w.heap.size + 1 + 1, 11, none⟩ u11).heap[w.heap.size + 1 + 1]? = some (.cells (obC { obH x with f7 := cVN (m + 1) x.f7 } (.slice B6 x.f6.length e6) u10 u11 (.slice none 0 0) (.slice none 0 0)) 46 (0, 0)) := q2
  rw [hW4] at q2' far4 hss cb4
  have hsS := (tV (m + 2)).T_lt hTS
  have TS := Lib.hid ((tV (m + 2)).T_move (w1 := W4) (fun k hk => far4 k (by have := hbS k hk; have := S3.out; omega)) hTS)
  have R64 := Lib.hid (Td.Row_move (w1 := W4) R6.out (fun k hk => by have := R6B.out k hk; rw [far4 k (by omega)]; exact hb4.block k this.2))
  have NS := Lib.hid hnS
  have FS : Hid (∀ k ∈ fS, W3.heap.size ≤ k ∧ k < W4.heap.size) := Lib.hid (fun k hk => by have h1 := hbS k hk; have h2 := hsS k hk; omega)
  have S4 : Hid (W3.heap.size ≤ W4.heap.size) := Lib.hid (by have := hb4.size; omega)
  have HW4 := Lib.hid hW4
  have O1 := Lib.hid ((far4 (w.heap.size + 1) (by omega)).trans z1)
  have O2 := Lib.hid q2'
  have CB4 := Lib.hid cb4
  have O10 := Lib.hid o10
  have O11 := Lib.hid o11
  clear hTS hnS hbS hb4 z0 z1 z2 P0 P1 P2 R6 hW4 q2 q2' far4 hss cb4 hsS CB3 hle
  go_wp2_with fail
  rw [HW4.out]
  clear d7 d8 d9 d10 d11 d12 d13 d14 d15 d16 f7 f8 f9 f10 f11 HW4 o10 o11 r10 r11
  refine (toV_all (m + 1) x.f8 A15 c15 A16 c16 W4 (Kd.C_below G15.out CB4.out) l15 (Kd.C_below G16.out CB4.out) l16 H8.out).mono ?_
  rintro e w5 ⟨u15, u16, fT, rfl, hTT, hnT, hbT, hb5⟩
  have z1 := (hb5.block _ (blk_lt O1.out)).trans O1.out
  have z2 := (hb5.block _ (blk_lt O2.out)).trans O2.out
  obtain ⟨d12, d13, d14, d15, d16⟩ := ob_c8 z2
  have f12 := blk_frozen z2 12
  have f13 := blk_frozen z2 13
  have f14 := blk_frozen z2 14
  have f15 := blk_frozen z2 15
  have f16 := blk_frozen z2 16
  obtain ⟨o15, o16⟩ := tV_ones hTT
  have r15 := fun (a_ : Addr) (W_ : World) (q_ : Mode) => run_store Try.prog W_ a_ u15 q_ o15
  have r16 := fun (a_ : Addr) (W_ : World) (q_ : Mode) => run_store Try.prog W_ a_ u16 q_ o16
  obtain ⟨W5, hW5⟩ : ∃ W5, ((((w5.setCell ⟨w.heap.size + 1 + 1, 12, none⟩ (.int .i64 x.f8.f0)).setCell ⟨w.heap.size + 1 + 1, 13, none⟩ (.string x.f8.f1)).setCell ⟨w.heap.size + 1 + 1, 14, none⟩ (.int .i64 x.f8.f2)).setCell ⟨w.heap.size + 1 + 1, 15, none⟩ u15).setCell ⟨w.heap.size + 1 + 1, 16, none⟩ u16 = W5 := ⟨_, rfl⟩
  have q2 : (((((w5.setCell ⟨w.heap.size + 1 + 1, 12, none⟩ (.int .i64 x.f8.f0)).setCell ⟨w.heap.size + 1 + 1, 13, none⟩ (.string x.f8.f1)).setCell ⟨w.heap.size + 1 + 1, 14, none⟩ (.int .i64 x.f8.f2)).setCell ⟨w.heap.size + 1 + 1, 15, none⟩ u15).setCell ⟨w.heap.size + 1 + 1, 16, none⟩ u16).heap[w.heap.size + 1 + 1]? = some (.cells (obC (cOb (m + 1) x) (.slice B6 x.f6.length e6) u10 u11 u15 u16) 46 (0, 0)) := ob_set8 z2 (cVN (m + 1) x.f8) u15 u16
  have far5 : ∀ k, k ≠ w.heap.size + 1 + 1 → (((((w5.setCell ⟨w.heap.size + 1 + 1, 12, none⟩ (.int .i64 x.f8.f0)).setCell ⟨w.heap.size + 1 + 1, 13, none⟩ (.string x.f8.f1)).setCell ⟨w.heap.size + 1 + 1, 14, none⟩ (.int .i64 x.f8.f2)).setCell ⟨w.heap.size + 1 + 1, 15, none⟩ u15).setCell ⟨w.heap.size + 1 + 1, 16, none⟩ u16).heap[k]? = w5.heap[k]? := fun k hk => heap5g _ _ _ _ _ _ _ _ _ _ _ _ k hk
  have hle : w.heap.size ≤ w.heap.size + 1 + 1 := by omega
  have cb5 := below_set (j := 16) (v := u16) (below_set (j := 15) (v := u15) (below_set (j := 14) (v := .int .i64 x.f8.f2) (below_set (j := 13) (v := .string x.f8.f1) (below_set (j := 12) (v := .int .i64 x.f8.f0) (below_step CB4.out hb5) hle) hle) hle) hle) hle
  rw [hW5] at q2 far5 cb5
  have N1 := Lib.hid ((far5 (w.heap.size + 1) (by omega)).trans z1)
  have N2 := Lib.hid q2
  have HW5 := Lib.hid hW5
  have CB5 := Lib.hid cb5
  have FAR5 := Lib.hid far5
  have TT := Lib.hid hTT
  have NT := Lib.hid hnT
  have BT := Lib.hid hbT
  have B5 := Lib.hid hb5
  have HONE := Lib.hid (ob_one (x := cOb (m + 1) x) (v6 := .slice B6 x.f6.length e6) rfl O10.out O11.out o15 o16)
  clear hTT hnT hbT hb5 z1 z2 O1 O2 hW5 q2 far5 cb5 hle
  go_wp2_with (first | ((with_reducible refine gate_dst (N := 34) rfl ?_); rw [HW5.out]; refine load_event rfl (N := 34) rfl 46 (.tmp 3) rfl ⟨w.heap.size + 1 + 1, 0, none⟩ rfl (obC (cOb (m + 1) x) (.slice B6 x.f6.length e6) u10 u11 u15 u16).toList (blk_row N2.out) Try.underlying46 rfl (by kernel_rfl) ?_) | ((with_reducible refine gate_store (p := 2) rfl ?_); refine store_event rfl rfl rfl N1.out rfl rfl rfl (by kernel_rfl) HONE.out ?_; intro w6 hz hs6 hfar6 hB6; have HZ := Lib.hid hz; have HF6 := Lib.hid hfar6; have HB6 := Lib.hid hB6; clear hz hs6 hfar6 hB6))
  clear d12 d13 d14 d15 d16 f12 f13 f14 f15 f16 o15 o16 r15 r16
  refine bodyPost_ret (results_cell_row rfl _ _ (w.heap.size + 1) 46 _ (0, 0) _ rfl HZ.out Try.underlying46 rfl (by kernel_rfl)) rfl ?_
  have hS3 := S3.out
  have hS4 := S4.out
  have hb5 := B5.out
  have mv5 : ∀ k, w.heap.size + 1 + 1 + 1 ≤ k → w6.heap[k]? = w5.heap[k]? := fun k hk => (HF6.out k (by omega)).trans (FAR5.out k (by omega))
  have mv4 : ∀ k, w.heap.size + 1 + 1 + 1 ≤ k → k < W4.heap.size → w6.heap[k]? = W4.heap[k]? := fun k hk hlt => (mv5 k hk).trans (hb5.block k hlt)
  have hT7 := (tV (m + 2)).T_move (w1 := w6) (fun k hk => mv4 k (by have := FS.out k hk; omega) (FS.out k hk).2) TS.out
  have hT8 := (tV (m + 2)).T_move (w1 := w6) (fun k hk => mv5 k (by have := BT.out k hk; omega)) TT.out
  have hR6 := Td.Row_move (w1 := w6) R64.out (fun k hk => mv4 k (R6B.out k hk).1 (by have := (R6B.out k hk).2; omega))
  refine ⟨_, _, rfl, tO_mk (x := cOb (m + 1) x) hR6 hT7 hT8, ?_, ?_, HB6.out w (by omega) CB5.out⟩
  · rw [List.nodup_append, List.nodup_append]
    refine ⟨by cases (Value.slice B6 x.f6.length e6).ownBlock <;> simp, ⟨NS.out, NT.out, fun a ha b hb hab => ?_⟩, fun a ha b hb hab => ?_⟩
    · have h1 := FS.out a ha
      have h2 := BT.out b hb
      omega
    · have h1 := R6B.out a ha
      rcases List.mem_append.1 hb with hb | hb
      · have h2 := FS.out b hb; omega
      · have h2 := BT.out b hb; omega
  · intro k hk
    rcases List.mem_append.1 hk with hk | hk
    · have := R6B.out k hk; omega
    · rcases List.mem_append.1 hk with hk | hk
      · have := FS.out k hk; omega
      · have := BT.out k hk; omega
end Go.Proofs.Ytmoiacijklkfaaa.G
