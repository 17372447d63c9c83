import Derived.Test.YtmoiacijklkfaaaMFnExactObjs0
import Derived.Lib.Hide
import Derived.Lib.SliceRun
import Derived.WalkKit
import Derived.IntWalk
import Derived.Deep.LoopGhost
import Derived.WalkLawsBesides
import Derived.Test.YtmoiacijklkfaaaProg
import Derived.Below
import Derived.Deep.Draws
import Derived.Deep.AppendLies
import Derived.Maps.AppendAt
import Derived.OwnWalk
import Derived.Laws.BytesArg
import Derived.Laws.MakeOwn
import Derived.Laws.OwnMore
import Derived.Deep.OwnRows
import Derived.Tactics
import Derived.Lib.ConvBytes
import Derived.Laws.Slices
import Derived.KernelRfl
import Derived.RowKit3
import Derived.Deep.QuietTactic
import Derived.BigQuiet
import Derived.WideLaws
import Derived.Deep.DeepCutAuto
import Derived.Deep.CutBlock
import Derived.Deep.RegionHeld3
import Derived.Laws.Rows
import Derived.Lib.AppendStr
import Derived.ArgAppend
import Derived.Laws.IdiomCopy
import Derived.OrdersHeld
import Derived.Laws.BitsLemmas
import Derived.RowKit
import Derived.ChangeArms
import Derived.ChangeShapes
import Derived.DataReads
import Derived.WideShapes
/- GKit -/
/-
  Small words beside the print's: lists searched by a test that may lack an answer, rows that stand below a growing world.
-/
namespace Go.Proofs.Ytmoiacijklkfaaa.G
open Go.RowKit Go.Proofs.YtmoiacijklkfaaaW.PrintWords Go.Proofs.YtmoiacijklkfaaaW.PrintLast Go.Proofs.YtmoiacijklkfaaaW.PrintMore
set_option linter.unusedVariables false

/-- The place of the first for which p says yes, counted from k on; -1 without one. -/
def idxO {α : Type} (p : α → Option Bool) : List α → Nat → Option Int
  | [], _ => some (-1)
  | x :: xs, k => (p x).bind fun b => if b then some (k : Int) else idxO p xs (k + 1)
theorem idxO_step {α : Type} {p : α → Option Bool} {xs : List α} {k : Nat} {r : Int} (hk : k < xs.length) (h : idxO p (xs.drop k) k = some r) :
    ∃ b, p xs[k] = some b ∧ (b = true → r = k) ∧ (b = false → idxO p (xs.drop (k + 1)) (k + 1) = some r) := by
  rw [List.drop_eq_getElem_cons hk, idxO] at h
  cases hp : p xs[k] with
  | none => rw [hp] at h; cases h
  | some b =>
    rw [hp] at h
    refine ⟨b, rfl, ?_, ?_⟩
    · rintro rfl; simpa using h.symm
    · rintro rfl; simpa using h
theorem idxO_end {α : Type} {p : α → Option Bool} {xs : List α} {r : Int} (h : idxO p (xs.drop xs.length) xs.length = some r) : r = -1 := by
  rw [List.drop_length, idxO] at h
  exact (Option.some.inj h).symm
theorem getD_at {α : Type} {xs : List α} {k : Nat} (hk : k < xs.length) (z : α) : xs.getD k z = xs[k] := by
  rw [List.getD_eq_getElem?_getD, List.getElem?_eq_getElem hk]; rfl
theorem below_trans {w w1 w2 : World} (h : Below w.heap.size w w1) (k : Below w1.heap.size w1 w2) : Below w.heap.size w w2 := below_then h h.size k
theorem hid_below {w w1 w2 : World} (h : Hid (Below w.heap.size w w1)) (k : Below w1.heap.size w1 w2) : Hid (Below w.heap.size w w2) := below_trans h.out k
section
variable {α : Type} {d : Kd α} {e base n c : Nat} {ok : Nat → Prop} {w : World} {A : Option Addr} {xs : List α}
/-- A row of the call's own with an element lies at the head of a block that is known whole. -/
theorem R_block (h : d.R e w base ok (.slice A n c) xs) (hp : 0 < xs.length) :
    ∃ g cur, A = some ⟨g, 0, none⟩ ∧ n = xs.length ∧ base ≤ g ∧ w.heap[g]? = some (.cells cur e (0, 0)) ∧ xs.length ≤ c ∧ c ≤ maxLen ∧ cur.size = c * d.sz ∧ ok g ∧
      Reps (d.M w base (fun k => ok k ∧ k ≠ g)) d.sz xs (cur.toList.take (xs.length * d.sz)) := by
  obtain ⟨h0, inner, ⟨hl, hv⟩, hr⟩ := h
  rcases hv with ⟨_, h1⟩ | ⟨g, cap, cur, hv, hb, hh, h1, h2, h3, h4⟩
  · omega
  · simp only [Value.slice.injEq] at hv
    obtain ⟨rfl, rfl, rfl⟩ := hv
    refine ⟨g, cur, rfl, rfl, hb, hh, h1, h2, h3, h0 g rfl, ?_⟩
    rw [h4]
    exact hr.imp_ (fun _ _ hp => d.M_mono (fun k hk => ⟨hk.1, fun e => hk.2 (by rw [e]; rfl)⟩) hp)
theorem R_of_block {g : Nat} {cur : Array Value} (hb : base ≤ g) (hh : w.heap[g]? = some (.cells cur e (0, 0))) (h1 : xs.length ≤ c) (h2 : c ≤ maxLen) (h3 : cur.size = c * d.sz) (hok : ok g)
    (hr : Reps (d.M w base (fun k => ok k ∧ k ≠ g)) d.sz xs (cur.toList.take (xs.length * d.sz))) : d.R e w base ok (.slice (some ⟨g, 0, none⟩) xs.length c) xs := by
  refine ⟨fun k hk => ?_, _, ⟨hr.1, .inr ⟨g, c, cur, rfl, hb, hh, h1, h2, h3, rfl⟩⟩, hr.imp_ (fun _ _ hp => d.M_mono (fun k hk => ⟨hk.1, fun e => hk.2 ?_⟩) hp)⟩
  · have : g = k := by simpa [Value.ownBlock] using hk
    exact this ▸ hok
  · have : k = g := by simpa [Value.ownBlock] using e
    exact this
end

/-! ### slices.DeleteFunc: what it leaves, and the state of its loop -/
def delO {α : Type} (p : α → Option Bool) : List α → Option (List α)
  | [] => some []
  | x :: xs => (p x).bind fun b => (delO p xs).bind fun ys => some (if b then ys else x :: ys)
theorem delO_cons {α : Type} {p : α → Option Bool} {x : α} {xs r : List α} (h : delO p (x :: xs) = some r) : ∃ b ys, p x = some b ∧ delO p xs = some ys ∧ r = if b then ys else x :: ys := by
  rw [delO] at h
  cases hp : p x with
  | none => rw [hp] at h; cases h
  | some b =>
    rw [hp, Option.bind_some] at h
    cases hy : delO p xs with
    | none => rw [hy] at h; cases h
    | some ys => rw [hy, Option.bind_some] at h; exact ⟨b, ys, rfl, rfl, (Option.some.inj h).symm⟩
theorem delO_idx {α : Type} {p : α → Option Bool} : ∀ (l : List α) (k : Nat) (r : List α), delO p l = some r →
    ∃ i, idxO p l k = some i ∧ ((i = -1 ∧ r = l) ∨ ∃ m : Nat, i = ((k + m : Nat) : Int) ∧ m < l.length ∧ ∃ r2, delO p (l.drop (m + 1)) = some r2 ∧ r = l.take m ++ r2)
  | [], k, r, h => ⟨-1, rfl, .inl ⟨rfl, by rw [delO] at h; exact (Option.some.inj h).symm⟩⟩
  | x :: xs, k, r, h => by
    obtain ⟨b, ys, hp, hy, rfl⟩ := delO_cons h
    cases b with
    | true => exact ⟨k, by rw [idxO, hp]; rfl, .inr ⟨0, by simp, by simp, ys, by simpa using hy, by simp⟩⟩
    | false =>
      obtain ⟨i, hi, hc⟩ := delO_idx xs (k + 1) ys hy
      refine ⟨i, by rw [idxO, hp]; exact hi, ?_⟩
      rcases hc with ⟨rfl, rfl⟩ | ⟨m, rfl, hm, r2, hr, rfl⟩
      · exact .inl ⟨rfl, rfl⟩
      · exact .inr ⟨m + 1, by rw [Nat.add_assoc, Nat.add_comm 1 m], by simpa using hm, r2, by simpa using hr, by simp⟩

structure DelSt {α : Type} (d : Kd α) (e : Nat) (p : α → Option Bool) (l0 r : List α) (ok : Nat → Prop) (w0 w : World) (g : Nat) (cur : Array Value) (m j : Nat) (wr : World) : Prop where
  st : ∃ (cur' : Array Value) (ys r2 : List α), ys.length = m ∧ wr.heap[g]? = some (.cells cur' e (0, 0)) ∧ cur'.size = cur.size ∧ cur'.toList.drop (j * d.sz) = cur.toList.drop (j * d.sz) ∧
    Reps (d.M wr w0.heap.size (fun k => ok k ∧ k ≠ g)) d.sz ys (cur'.toList.take (m * d.sz)) ∧ delO p (l0.drop j) = some r2 ∧ r = ys ++ r2
  kept : Kept w wr (fun k => k = g)
  below : Below w0.heap.size w0 wr
  pos : m < j
section
variable {α : Type} {d : Kd α} {e c : Nat} {p : α → Option Bool} {l0 r : List α} {ok : Nat → Prop} {w0 w wr W : World} {g m j : Nat} {cur : Array Value}
theorem reps_take {R : α → List Value → Prop} {size : Nat} {ps : List α} {cs : List Value} (h : Reps R size ps cs) (k : Nat) (hk : k ≤ ps.length) : Reps R size (ps.take k) (cs.take (k * size)) := by
  have hle : k * size ≤ ps.length * size := Nat.mul_le_mul_right _ hk
  refine ⟨by rw [List.length_take, List.length_take, h.1, Nat.min_eq_left hk, Nat.min_eq_left hle], fun j q hq => ?_⟩
  have hj : j < k := by
    have := (List.getElem?_eq_some_iff.1 hq).1
    rw [List.length_take] at this
    omega
  rw [List.getElem?_take, if_pos hj] at hq
  have h1 : j * size + size ≤ k * size := by rw [← Nat.succ_mul]; exact Nat.mul_le_mul_right _ hj
  have := h.2 j q hq
  rw [List.drop_take, List.take_take, Nat.min_eq_left (by omega)]
  exact this
theorem del_start (hg : w0.heap.size ≤ g) (hh : w.heap[g]? = some (.cells cur e (0, 0))) (hr : Reps (d.M w w0.heap.size (fun k => ok k ∧ k ≠ g)) d.sz l0 (cur.toList.take (l0.length * d.sz)))
    (hB : Below w0.heap.size w0 w) (hb : Below w.heap.size w wr) {r2 : List α} (hm : m < l0.length) (h2 : delO p (l0.drop (m + 1)) = some r2) (hrr : r = l0.take m ++ r2) : DelSt d e p l0 r ok w0 w g cur m (m + 1) wr := by
  refine ⟨⟨cur, l0.take m, r2, by rw [List.length_take]; omega, (hb.block g (blk_lt hh)).trans hh, rfl, rfl, ?_, h2, hrr⟩, Kept.of_below hb _, below_then hB hB.size hb, by omega⟩
  have h3 := reps_take hr m (by omega)
  rw [List.take_take, Nat.min_eq_left (Nat.mul_le_mul_right _ (by omega))] at h3
  exact h3.imp_ (fun _ _ hp => Kd.M_below hp hb)
/-- Element j, not yet read: its cells. -/
theorem del_read (hh : w.heap[g]? = some (.cells cur e (0, 0))) (hs : cur.size = c * d.sz) (hl : l0.length ≤ c) (hr : Reps (d.M w w0.heap.size (fun k => ok k ∧ k ≠ g)) d.sz l0 (cur.toList.take (l0.length * d.sz)))
    (h : DelSt d e p l0 r ok w0 w g cur m j wr) (hj : j < l0.length) :
    ∃ (cs : List Value) (b : Bool), cs.length = d.sz ∧ p l0[j] = some b ∧ d.M wr w0.heap.size (fun k => ok k ∧ k ≠ g) l0[j] cs ∧ (∀ t u, cs[t]? = some u → wr.cell? ⟨g, j * d.sz + t, none⟩ = some u) ∧ (∀ t, wr.frozen? ⟨g, t, none⟩ = false) ∧ (∀ t, t < c * d.sz → ∃ u, wr.cell? ⟨g, t, none⟩ = some u) := by
  obtain ⟨cur', ys, r2, hy, hh', hs', hd, hR, hdel, hrr⟩ := h.st
  have hjl : j * d.sz + d.sz ≤ l0.length * d.sz := by rw [← Nat.succ_mul]; exact Nat.mul_le_mul_right _ hj
  have hcl : l0.length * d.sz ≤ c * d.sz := Nat.mul_le_mul_right _ hl
  rw [List.drop_eq_getElem_cons hj] at hdel
  obtain ⟨b, ys', hp, _, _⟩ := delO_cons hdel
  have hM := hr.2 j _ (List.getElem?_eq_getElem hj)
  rw [List.drop_take, List.take_take, Nat.min_eq_left (by omega)] at hM
  refine ⟨(cur.toList.drop (j * d.sz)).take d.sz, b, ?_, hp, ?_, ?_, ?_, ?_⟩
  · rw [List.length_take, List.length_drop, Array.length_toList]; omega
  · exact Kd.M_kept hM h.kept (fun k hk => hk.2)
  · intro t u ht
    have htl := (List.getElem?_eq_some_iff.1 ht).1
    rw [List.length_take] at htl
    rw [← hd, List.getElem?_take, if_pos (by omega), List.getElem?_drop, Array.getElem?_toList] at ht
    rw [blk_cell hh', ht]
  · intro t; exact blk_frozen hh' t
  · intro t ht
    exact ⟨cur'[t]'(by omega), by rw [blk_cell hh']; exact Array.getElem?_eq_getElem (by omega)⟩
theorem del_skip (h : DelSt d e p l0 r ok w0 w g cur m j wr) (hj : j < l0.length) (hp : p l0[j] = some true) (hb : Below wr.heap.size wr W) : DelSt d e p l0 r ok w0 w g cur m (j + 1) W := by
  obtain ⟨cur', ys, r2, hy, hh', hs', hd, hR, hdel, hrr⟩ := h.st
  rw [List.drop_eq_getElem_cons hj] at hdel
  obtain ⟨b, ys', hp', hdel', he⟩ := delO_cons hdel
  rw [hp] at hp'
  cases hp'
  refine ⟨⟨cur', ys, r2, hy, (hb.block g (blk_lt hh')).trans hh', hs', ?_, hR.imp_ (fun _ _ hq => Kd.M_below hq hb), ?_, hrr⟩, h.kept.below hb, below_then h.below h.below.size hb, by have := h.pos; omega⟩
  · have := congrArg (List.drop d.sz) hd
    rw [List.drop_drop, List.drop_drop] at this
    rw [Nat.succ_mul]; exact this
  · rw [hdel', he]; rfl
theorem del_keep (hg : w0.heap.size ≤ g) (hs : cur.size = c * d.sz) (hl : l0.length ≤ c) (h : DelSt d e p l0 r ok w0 w g cur m j wr) (hj : j < l0.length) (hp : p l0[j] = some false) (hb : Below wr.heap.size wr W)
    {cs : List Value} (hcs : cs.length = d.sz) (hM : d.M wr w0.heap.size (fun k => ok k ∧ k ≠ g) l0[j] cs) : DelSt d e p l0 r ok w0 w g cur (m + 1) (j + 1) (W.setCells g (m * d.sz) cs) := by
  obtain ⟨cur', ys, r2, hy, hh', hs', hd, hR, hdel, hrr⟩ := h.st
  have hmj := h.pos
  rw [List.drop_eq_getElem_cons hj] at hdel
  obtain ⟨b, ys', hp', hdel', he⟩ := delO_cons hdel
  rw [hp] at hp'
  cases hp'
  have hjl : j * d.sz + d.sz ≤ l0.length * d.sz := by rw [← Nat.succ_mul]; exact Nat.mul_le_mul_right _ hj
  have hcl : l0.length * d.sz ≤ c * d.sz := Nat.mul_le_mul_right _ hl
  have hml : m * d.sz + d.sz ≤ j * d.sz := by rw [← Nat.succ_mul]; exact Nat.mul_le_mul_right _ hmj
  have hbk := (hb.block g (blk_lt hh')).trans hh'
  obtain ⟨cur2, h2, h2s, h2l⟩ := setCells_row cs (m * d.sz) W cur' hbk (by omega)
  have far : ∀ k, k ≠ g → k < wr.heap.size → (W.setCells g (m * d.sz) cs).heap[k]? = wr.heap[k]? := fun k hk hlt => (setCells_far cs _ k hk).trans (hb.block k hlt)
  obtain ⟨s1, s2, s3, s4⟩ := setCells_same g cs (m * d.sz) W
  have hlen : cur'.toList.length = cur'.size := Array.length_toList
  have hmc : m * d.sz ≤ cur'.size := by omega
  have hsj : (j + 1) * d.sz = j * d.sz + d.sz := Nat.succ_mul j d.sz
  have mv : ∀ q cq, d.M wr w0.heap.size (fun k => ok k ∧ k ≠ g) q cq → d.M (W.setCells g (m * d.sz) cs) w0.heap.size (fun k => ok k ∧ k ≠ g) q cq := fun q cq hq => Kd.M_step hq (fun k hk hlt => far k hk.2 hlt)
  refine ⟨⟨cur2, ys ++ [l0[j]], ys', by simp [hy], h2, h2s.trans hs', ?_, ?_, hdel', by rw [hrr, he]; simp⟩, ?_, ?_, by omega⟩
  · rw [h2l, List.drop_append, List.drop_of_length_le (by rw [List.length_append, List.length_take, hcs, hlen, Nat.min_eq_left hmc]; omega), List.nil_append, List.length_append, List.length_take, hcs, List.drop_drop]
    have := congrArg (List.drop d.sz) hd
    rw [List.drop_drop, List.drop_drop] at this
    rw [Nat.succ_mul, ← this]
    congr 1
    rw [hlen]; omega
  · rw [h2l, List.append_assoc, Nat.succ_mul, List.take_append, List.take_of_length_le (by rw [List.length_take]; omega), List.length_take, hlen, Nat.min_eq_left (by omega), Nat.add_sub_cancel_left, List.take_append_of_le_length (by omega), List.take_of_length_le (l := cs) (by omega)]
    exact (hR.imp_ mv).snoc (mv _ _ hM) hcs
  · refine (h.kept.below hb).then_ (S2 := fun k => k = g) ⟨by omega, fun i _ hn => setCells_far cs _ i hn⟩ (fun k hk => .inl hk)
  · have hB := below_then h.below h.below.size hb
    exact ⟨by rw [s1]; exact hB.os, by rw [s2]; exact hB.tape, by rw [s3]; exact hB.output, by rw [s4]; exact hB.size, fun k hk => by rw [setCells_far cs _ k (by omega)]; exact hB.block k hk⟩
theorem del_end (hg : w0.heap.size ≤ g) (hs : cur.size = c * d.sz) (hc : c ≤ maxLen) (hl : l0.length ≤ c) (hok : ok g) (h : DelSt d e p l0 r ok w0 w g cur m l0.length wr) {zs : List Value} (hz : m * d.sz + zs.length ≤ c * d.sz) :
    d.R e (wr.setCells g (m * d.sz) zs) w0.heap.size ok (.slice (some ⟨g, 0, none⟩) m c) r ∧ Below w0.heap.size w0 (wr.setCells g (m * d.sz) zs) ∧ Kept w (wr.setCells g (m * d.sz) zs) (fun k => k = g) := by
  obtain ⟨cur', ys, r2, hy, hh', hs', hd, hR, hdel, hrr⟩ := h.st
  have hml := h.pos
  rw [List.drop_length, delO] at hdel
  cases hdel
  rw [List.append_nil] at hrr
  subst hrr
  obtain ⟨cur2, h2, h2s, h2l⟩ := setCells_row zs (m * d.sz) wr cur' hh' (by omega)
  obtain ⟨s1, s2, s3, s4⟩ := setCells_same g zs (m * d.sz) wr
  have hlen : cur'.toList.length = cur'.size := Array.length_toList
  refine ⟨?_, ?_, ?_⟩
  · subst hy
    refine R_of_block hg h2 (by omega) hc (by omega) hok ?_
    rw [h2l, List.append_assoc, List.take_append_of_le_length (by rw [List.length_take]; omega), List.take_take, Nat.min_self]
    exact hR.imp_ (fun q cq hq => Kd.M_step hq (fun k hk _ => setCells_far zs _ k hk.2))
  · have hB := h.below
    exact ⟨by rw [s1]; exact hB.os, by rw [s2]; exact hB.tape, by rw [s3]; exact hB.output, by rw [s4]; exact hB.size, fun k hk => by rw [setCells_far zs _ k (by omega)]; exact hB.block k hk⟩
  · exact h.kept.then_ (S2 := fun k => k = g) ⟨by omega, fun i _ hn => setCells_far zs _ i hn⟩ (fun k hk => .inl hk)
end
/-- 'clear(s)', s a slice of n > 0 elements of whatever cells. -/
theorem run_clear_cells {P : Program} (w : World) (t e ty : TypeId) (z : Value) (ht : P.underlying t = some (.slice e)) (hv : ∀ w, (zeroValue e).run P w = .ok z w) (h1 : ∀ u ∈ z.cells, u.oneCell' = true) (b o n c : Nat) (hn : 0 < n)
    (hc : ∀ j, j < n * z.cells.size → (w.cell? ⟨b, o + j, none⟩).isSome = true) (hf : ∀ j, w.frozen? ⟨b, j, none⟩ = false) :
    (Builtin.clear_ #[t] ty #[.slice (some ⟨b, o, none⟩) n c]).run P w = .ok (.tuple #[]) (w.setCells b o (Builtin.zeroCells z.cells n).toList) := by
  have hl : (Builtin.zeroCells z.cells n).toList.length = n * z.cells.size := by simp [Builtin.zeroCells]
  have hst := run_storeCells_cells (P := P) b o (Builtin.zeroCells z.cells n).toList 0 w (by rw [hl]; intro j hj; simpa using hc j hj) (by intro j _; simpa using hf (o + j)) (by
    intro v hv'
    simp only [Builtin.zeroCells, Array.toList_map, Array.toList_range, List.mem_map, List.mem_range] at hv'
    obtain ⟨i, hi, rfl⟩ := hv'
    have hpos : 0 < z.cells.size := by
      rcases Nat.eq_zero_or_pos z.cells.size with h | h
      · rw [h] at hi; omega
      · exact h
    rw [getElem!_pos z.cells (i % z.cells.size) (Nat.mod_lt _ hpos)]
    exact h1 _ (Array.getElem_mem _))
  simp only [Nat.add_zero] at hst
  obtain ⟨m, rfl⟩ : ∃ m, n = m + 1 := ⟨n - 1, by omega⟩
  simp [Builtin.clear_, run_underlying ht, hv, hst]
end Go.Proofs.Ytmoiacijklkfaaa.G

/- G0 -/
-- Laid by wip/g/gprint.py out of the translation, by the kit's print program. Lean checks it.
namespace Go.Proofs.Ytmoiacijklkfaaa.G
open Go.RowKit Go.Proofs.YtmoiacijklkfaaaW.PrintWords Go.Proofs.YtmoiacijklkfaaaW.PrintLast Go.Proofs.YtmoiacijklkfaaaW.PrintMore
attribute [local go_sem] max2_int min2_int max_two min_two max_three min_three max_four min_four   -- for this text's walks alone
set_option linter.unusedVariables false
set_option linter.unusedSimpArgs false

def errW : Option Int → Value
  | none => .nilIface
  | some c => .iface 0 (.int .i64 c)
theorem errW_none : errW none = .nilIface := rfl
theorem errW_some (c : Int) : errW (some c) = .iface 0 (.int .i64 c) := rfl

theorem info9 : (Try.prog.info? 9).map (fun i => (i.zero, i.size, i.bytes)) = some (some (.string ⟨#[]⟩), 1, 16) := by kernel_rfl
theorem info44 : (Try.prog.info? 44).map (fun i => (i.zero, i.size, i.bytes)) = some (some (.agg #[(.int .i64 0), (.string ⟨#[]⟩), (.int .i64 0), (.slice none 0 0), (.slice none 0 0)]), 5, 80) := by kernel_rfl
theorem info46 : (Try.prog.info? 46).map (fun i => (i.zero, i.size, i.bytes)) = some (some (.agg #[(.int .i64 0), (.string ⟨#[]⟩), (.int .i64 0), (.int .i64 0), (.int .i64 0), (.bool false), (.slice none 0 0), (.int .i64 0), (.string ⟨#[]⟩), (.int .i64 0), (.slice none 0 0), (.slice none 0 0), (.int .i64 0), (.string ⟨#[]⟩), (.int .i64 0), (.slice none 0 0), (.slice none 0 0)]), 17, 240) := by kernel_rfl
theorem info90 : (Try.prog.info? 90).map (fun i => (i.zero, i.size, i.bytes)) = some (some (.agg #[(.int .i64 0), (.bool false), (.int .i64 0), (.string ⟨#[]⟩), (.int .i64 0), (.int .i64 0), (.int .i64 0), (.bool false), (.slice none 0 0), (.int .i64 0), (.string ⟨#[]⟩), (.int .i64 0), (.slice none 0 0), (.slice none 0 0), (.int .i64 0), (.string ⟨#[]⟩), (.int .i64 0), (.slice none 0 0), (.slice none 0 0)]), 19, 256) := by kernel_rfl
-- the values' own types
/-! #### struct type 67, nested in itself -/
structure S67 where
  f0 : Int
  f1 : ByteArray
  f2 : Int
  f3 : (List ByteArray)
  f4 : (List S67)
def z67 : S67 := ⟨(0 : Int), (⟨#[]⟩ : ByteArray), (0 : Int), ([] : List ByteArray), ([] : List S67)⟩
def F67 (d : Kd S67) : Kd S67 := Kd.iso (Kd.pair (Kd.int .i64) (Kd.pair Kd.string (Kd.pair (Kd.int .i64) (Kd.pair (Kd.slice 9 Kd.string) (Kd.slice 67 d))))) (fun x : S67 => (x.f0, x.f1, x.f2, x.f3, x.f4))
theorem mono67 : Kd.Mono F67 := Kd.mono_iso _ (Kd.mono_pair (Kd.mono_const _) (Kd.mono_pair (Kd.mono_const _) (Kd.mono_pair (Kd.mono_const _) (Kd.mono_pair (Kd.mono_const _) (Kd.mono_slice 67 Kd.mono_id)))))
theorem sub67 : Kd.Sub F67 [9, 67] := Kd.sub_iso _ (Kd.sub_pair (Kd.sub_const _ (by decide)) (Kd.sub_pair (Kd.sub_const _ (by decide)) (Kd.sub_pair (Kd.sub_const _ (by decide)) (Kd.sub_pair (Kd.sub_const _ (by decide)) (Kd.sub_slice 67 (by decide) Kd.sub_id)))))
theorem sz67 : ∀ n, (Kd.upto F67 5 [9, 67] n).sz = 5 := Kd.upto_sz (fun _ => rfl)
def k67 : Kd S67 := Kd.fix F67 5 [9, 67] sz67 (Kd.upto_E sub67)
theorem k67_open {w : World} {x : S67} {cs : List Value} (h : k67.K w x cs) : ∃ A3 c3 A4 c4, cs = [.int .i64 x.f0, .string x.f1, .int .i64 x.f2, .slice A3 x.f3.length c3, .slice A4 x.f4.length c4] ∧ x.f3.length ≤ c3 ∧ Kd.string.C w A3 x.f3.length x.f3 ∧ x.f4.length ≤ c4 ∧ k67.C w A4 x.f4.length x.f4 := by
  obtain ⟨n, h⟩ := h
  cases n with
  | zero => exact h.elim
  | succ n =>
    obtain ⟨_, _, rfl, rfl, ⟨_, _, rfl, rfl, ⟨_, _, rfl, rfl, ⟨_, _, rfl, ⟨A3, c3, rfl, l3, g3⟩, ⟨A4, c4, rfl, l4, g4⟩⟩⟩⟩⟩ := h
    exact ⟨A3, c3, A4, c4, rfl, l3, g3, l4, Kd.fix_C g4⟩
def rd_T67 (xs : List S67) (i : Int) : S67 := xs.getD i.toNat z67
theorem at_T67 {w : World} {A : Option Addr} {n : Nat} {xs : List S67} (h : Kd.C k67 w A n xs) (i : Int) (h0 : 0 ≤ i) (h1 : i < n) : ∃ ad A3 c3 A4 c4, A = some ad ∧ w.cell? (ad.add (i.toNat * 5)) = some (.int .i64 (rd_T67 xs i).f0) ∧ w.cell? ⟨(ad.add (i.toNat * 5)).block, (ad.add (i.toNat * 5)).off + 1, none⟩ = some (.string (rd_T67 xs i).f1) ∧ w.cell? ⟨(ad.add (i.toNat * 5)).block, (ad.add (i.toNat * 5)).off + 2, none⟩ = some (.int .i64 (rd_T67 xs i).f2) ∧ w.cell? ⟨(ad.add (i.toNat * 5)).block, (ad.add (i.toNat * 5)).off + 3, none⟩ = some (.slice A3 (rd_T67 xs i).f3.length c3) ∧ w.cell? ⟨(ad.add (i.toNat * 5)).block, (ad.add (i.toNat * 5)).off + 4, none⟩ = some (.slice A4 (rd_T67 xs i).f4.length c4) ∧ (rd_T67 xs i).f3.length ≤ c3 ∧ Kd.string.C w A3 (rd_T67 xs i).f3.length (rd_T67 xs i).f3 ∧ (rd_T67 xs i).f4.length ≤ c4 ∧ k67.C w A4 (rd_T67 xs i).f4.length (rd_T67 xs i).f4 := by
  obtain ⟨ad, c, e, _, hK, hc0⟩ := Kd.C_get h z67 i h0 h1
  have hc : ∀ j u, c[j]? = some u → w.cell? (ad.add (i.toNat * 5 + j)) = some u := hc0
  obtain ⟨A3, c3, A4, c4, rfl, l3, g3, l4, g4⟩ := k67_open hK
  exact ⟨ad, A3, c3, A4, c4, e, hc 0 _ rfl, by rw [← add_field _ _ 1 (by omega)]; exact hc 1 _ rfl, by rw [← add_field _ _ 2 (by omega)]; exact hc 2 _ rfl, by rw [← add_field _ _ 3 (by omega)]; exact hc 3 _ rfl, by rw [← add_field _ _ 4 (by omega)]; exact hc 4 _ rfl, l3, g3, l4, g4⟩

/-! #### struct type 121 -/
structure S121 where
  f0 : Int
  f1 : ByteArray
  f2 : Int
  f3 : Int
  f4 : Int
  f5 : Bool
  f6 : (List ByteArray)
  f7 : S67
  f8 : S67
def k121 : Kd S121 := Kd.iso (Kd.pair (Kd.int .i64) (Kd.pair Kd.string (Kd.pair (Kd.int .i64) (Kd.pair (Kd.int .i64) (Kd.pair (Kd.int .i64) (Kd.pair Kd.bool (Kd.pair (Kd.slice 9 Kd.string) (Kd.pair k67 k67)))))))) (fun x : S121 => (x.f0, x.f1, x.f2, x.f3, x.f4, x.f5, x.f6, x.f7, x.f8))
theorem k121_open {w : World} {x : S121} {cs : List Value} (h : k121.K w x cs) : ∃ A6 c6 A10 c10 A11 c11 A15 c15 A16 c16, cs = [.int .i64 x.f0, .string x.f1, .int .i64 x.f2, .int .i64 x.f3, .int .i64 x.f4, .bool x.f5, .slice A6 x.f6.length c6, .int .i64 x.f7.f0, .string x.f7.f1, .int .i64 x.f7.f2, .slice A10 x.f7.f3.length c10, .slice A11 x.f7.f4.length c11, .int .i64 x.f8.f0, .string x.f8.f1, .int .i64 x.f8.f2, .slice A15 x.f8.f3.length c15, .slice A16 x.f8.f4.length c16] ∧ x.f6.length ≤ c6 ∧ Kd.string.C w A6 x.f6.length x.f6 ∧ x.f7.f3.length ≤ c10 ∧ Kd.string.C w A10 x.f7.f3.length x.f7.f3 ∧ x.f7.f4.length ≤ c11 ∧ k67.C w A11 x.f7.f4.length x.f7.f4 ∧ x.f8.f3.length ≤ c15 ∧ Kd.string.C w A15 x.f8.f3.length x.f8.f3 ∧ x.f8.f4.length ≤ c16 ∧ k67.C w A16 x.f8.f4.length x.f8.f4 := by
  obtain ⟨_, _, rfl, rfl, ⟨_, _, rfl, rfl, ⟨_, _, rfl, rfl, ⟨_, _, rfl, rfl, ⟨_, _, rfl, rfl, ⟨_, _, rfl, rfl, ⟨_, _, rfl, ⟨A6, c6, rfl, l6, g6⟩, ⟨_, _, rfl, s7, s12⟩⟩⟩⟩⟩⟩⟩⟩ := h
  obtain ⟨A10, c10, A11, c11, rfl, l10, g10, l11, g11⟩ := k67_open s7
  obtain ⟨A15, c15, A16, c16, rfl, l15, g15, l16, g16⟩ := k67_open s12
  exact ⟨A6, c6, A10, c10, A11, c11, A15, c15, A16, c16, rfl, l6, g6, l10, g10, l11, g11, l15, g15, l16, g16⟩
/-! #### struct type 124 -/
structure S124 where
  f0 : Int
  f1 : Bool
  f2 : S121
def k124 : Kd S124 := Kd.iso (Kd.pair (Kd.int .i64) (Kd.pair Kd.bool k121)) (fun x : S124 => (x.f0, x.f1, x.f2))
/-! #### struct type 44, nested in itself -/
structure S44 where
  f0 : Int
  f1 : ByteArray
  f2 : Int
  f3 : (List ByteArray)
  f4 : (List S44)
def z44 : S44 := ⟨(0 : Int), (⟨#[]⟩ : ByteArray), (0 : Int), ([] : List ByteArray), ([] : List S44)⟩
def F44 (d : Kd S44) : Kd S44 := Kd.iso (Kd.pair (Kd.int .i64) (Kd.pair Kd.string (Kd.pair (Kd.int .i64) (Kd.pair (Kd.slice 9 Kd.string) (Kd.slice 44 d))))) (fun x : S44 => (x.f0, x.f1, x.f2, x.f3, x.f4))
theorem mono44 : Kd.Mono F44 := Kd.mono_iso _ (Kd.mono_pair (Kd.mono_const _) (Kd.mono_pair (Kd.mono_const _) (Kd.mono_pair (Kd.mono_const _) (Kd.mono_pair (Kd.mono_const _) (Kd.mono_slice 44 Kd.mono_id)))))
theorem sub44 : Kd.Sub F44 [9, 44] := Kd.sub_iso _ (Kd.sub_pair (Kd.sub_const _ (by decide)) (Kd.sub_pair (Kd.sub_const _ (by decide)) (Kd.sub_pair (Kd.sub_const _ (by decide)) (Kd.sub_pair (Kd.sub_const _ (by decide)) (Kd.sub_slice 44 (by decide) Kd.sub_id)))))
theorem sz44 : ∀ n, (Kd.upto F44 5 [9, 44] n).sz = 5 := Kd.upto_sz (fun _ => rfl)
def k44 : Kd S44 := Kd.fix F44 5 [9, 44] sz44 (Kd.upto_E sub44)
theorem k44_open {w : World} {x : S44} {cs : List Value} (h : k44.K w x cs) : ∃ A3 c3 A4 c4, cs = [.int .i64 x.f0, .string x.f1, .int .i64 x.f2, .slice A3 x.f3.length c3, .slice A4 x.f4.length c4] ∧ x.f3.length ≤ c3 ∧ Kd.string.C w A3 x.f3.length x.f3 ∧ x.f4.length ≤ c4 ∧ k44.C w A4 x.f4.length x.f4 := by
  obtain ⟨n, h⟩ := h
  cases n with
  | zero => exact h.elim
  | succ n =>
    obtain ⟨_, _, rfl, rfl, ⟨_, _, rfl, rfl, ⟨_, _, rfl, rfl, ⟨_, _, rfl, ⟨A3, c3, rfl, l3, g3⟩, ⟨A4, c4, rfl, l4, g4⟩⟩⟩⟩⟩ := h
    exact ⟨A3, c3, A4, c4, rfl, l3, g3, l4, Kd.fix_C g4⟩
theorem k44_mk (w : World) (x : S44) {A3 : Option Addr} {c3 : Nat} (l3 : x.f3.length ≤ c3) (g3 : Kd.string.C w A3 x.f3.length x.f3) {A4 : Option Addr} {c4 : Nat} (l4 : x.f4.length ≤ c4) (g4 : k44.C w A4 x.f4.length x.f4) : k44.K w x [.int .i64 x.f0, .string x.f1, .int .i64 x.f2, .slice A3 x.f3.length c3, .slice A4 x.f4.length c4] := by
  obtain ⟨n4, q4⟩ := Kd.fix_C_back mono44 g4
  have r4 := Kd.upto_C_le mono44 sz44 (show n4 ≤ n4 by omega) q4
  exact ⟨n4 + 1, ⟨[.int .i64 x.f0], [.string x.f1, .int .i64 x.f2, .slice A3 x.f3.length c3, .slice A4 x.f4.length c4], rfl, rfl, ⟨[.string x.f1], [.int .i64 x.f2, .slice A3 x.f3.length c3, .slice A4 x.f4.length c4], rfl, rfl, ⟨[.int .i64 x.f2], [.slice A3 x.f3.length c3, .slice A4 x.f4.length c4], rfl, rfl, ⟨[.slice A3 x.f3.length c3], [.slice A4 x.f4.length c4], rfl, ⟨A3, c3, rfl, l3, g3⟩, ⟨A4, c4, rfl, l4, r4⟩⟩⟩⟩⟩⟩
theorem k44_mkM (w : World) (base : Nat) (ok : Nat → Prop) (x : S44) {v3 : Value} (g3 : Kd.string.R 9 w base ok v3 x.f3) {v4 : Value} (g4 : k44.R 44 w base ok v4 x.f4) : k44.M w base ok x [.int .i64 x.f0, .string x.f1, .int .i64 x.f2, v3, v4] := by
  obtain ⟨n4, q4⟩ := Kd.fix_R_back mono44 g4
  have r4 := Kd.upto_R_le mono44 sz44 (show n4 ≤ n4 by omega) q4
  exact ⟨n4 + 1, ⟨[.int .i64 x.f0], [.string x.f1, .int .i64 x.f2, v3, v4], rfl, rfl, ⟨[.string x.f1], [.int .i64 x.f2, v3, v4], rfl, rfl, ⟨[.int .i64 x.f2], [v3, v4], rfl, rfl, ⟨[v3], [v4], rfl, ⟨v3, rfl, g3⟩, ⟨v4, rfl, r4⟩⟩⟩⟩⟩⟩
def rd_T44 (xs : List S44) (i : Int) : S44 := xs.getD i.toNat z44
theorem at_T44 {w : World} {A : Option Addr} {n : Nat} {xs : List S44} (h : Kd.C k44 w A n xs) (i : Int) (h0 : 0 ≤ i) (h1 : i < n) : ∃ ad A3 c3 A4 c4, A = some ad ∧ w.cell? (ad.add (i.toNat * 5)) = some (.int .i64 (rd_T44 xs i).f0) ∧ w.cell? ⟨(ad.add (i.toNat * 5)).block, (ad.add (i.toNat * 5)).off + 1, none⟩ = some (.string (rd_T44 xs i).f1) ∧ w.cell? ⟨(ad.add (i.toNat * 5)).block, (ad.add (i.toNat * 5)).off + 2, none⟩ = some (.int .i64 (rd_T44 xs i).f2) ∧ w.cell? ⟨(ad.add (i.toNat * 5)).block, (ad.add (i.toNat * 5)).off + 3, none⟩ = some (.slice A3 (rd_T44 xs i).f3.length c3) ∧ w.cell? ⟨(ad.add (i.toNat * 5)).block, (ad.add (i.toNat * 5)).off + 4, none⟩ = some (.slice A4 (rd_T44 xs i).f4.length c4) ∧ (rd_T44 xs i).f3.length ≤ c3 ∧ Kd.string.C w A3 (rd_T44 xs i).f3.length (rd_T44 xs i).f3 ∧ (rd_T44 xs i).f4.length ≤ c4 ∧ k44.C w A4 (rd_T44 xs i).f4.length (rd_T44 xs i).f4 := by
  obtain ⟨ad, c, e, _, hK, hc0⟩ := Kd.C_get h z44 i h0 h1
  have hc : ∀ j u, c[j]? = some u → w.cell? (ad.add (i.toNat * 5 + j)) = some u := hc0
  obtain ⟨A3, c3, A4, c4, rfl, l3, g3, l4, g4⟩ := k44_open hK
  exact ⟨ad, A3, c3, A4, c4, e, hc 0 _ rfl, by rw [← add_field _ _ 1 (by omega)]; exact hc 1 _ rfl, by rw [← add_field _ _ 2 (by omega)]; exact hc 2 _ rfl, by rw [← add_field _ _ 3 (by omega)]; exact hc 3 _ rfl, by rw [← add_field _ _ 4 (by omega)]; exact hc 4 _ rfl, l3, g3, l4, g4⟩

/-! #### struct type 46 -/
structure S46 where
  f0 : Int
  f1 : ByteArray
  f2 : Int
  f3 : Int
  f4 : Int
  f5 : Bool
  f6 : (List ByteArray)
  f7 : S44
  f8 : S44
def z46 : S46 := ⟨(0 : Int), (⟨#[]⟩ : ByteArray), (0 : Int), (0 : Int), (0 : Int), false, ([] : List ByteArray), z44, z44⟩
def k46 : Kd S46 := Kd.iso (Kd.pair (Kd.int .i64) (Kd.pair Kd.string (Kd.pair (Kd.int .i64) (Kd.pair (Kd.int .i64) (Kd.pair (Kd.int .i64) (Kd.pair Kd.bool (Kd.pair (Kd.slice 9 Kd.string) (Kd.pair k44 k44)))))))) (fun x : S46 => (x.f0, x.f1, x.f2, x.f3, x.f4, x.f5, x.f6, x.f7, x.f8))
theorem k46_open {w : World} {x : S46} {cs : List Value} (h : k46.K w x cs) : ∃ A6 c6 A10 c10 A11 c11 A15 c15 A16 c16, cs = [.int .i64 x.f0, .string x.f1, .int .i64 x.f2, .int .i64 x.f3, .int .i64 x.f4, .bool x.f5, .slice A6 x.f6.length c6, .int .i64 x.f7.f0, .string x.f7.f1, .int .i64 x.f7.f2, .slice A10 x.f7.f3.length c10, .slice A11 x.f7.f4.length c11, .int .i64 x.f8.f0, .string x.f8.f1, .int .i64 x.f8.f2, .slice A15 x.f8.f3.length c15, .slice A16 x.f8.f4.length c16] ∧ x.f6.length ≤ c6 ∧ Kd.string.C w A6 x.f6.length x.f6 ∧ x.f7.f3.length ≤ c10 ∧ Kd.string.C w A10 x.f7.f3.length x.f7.f3 ∧ x.f7.f4.length ≤ c11 ∧ k44.C w A11 x.f7.f4.length x.f7.f4 ∧ x.f8.f3.length ≤ c15 ∧ Kd.string.C w A15 x.f8.f3.length x.f8.f3 ∧ x.f8.f4.length ≤ c16 ∧ k44.C w A16 x.f8.f4.length x.f8.f4 := by
  obtain ⟨_, _, rfl, rfl, ⟨_, _, rfl, rfl, ⟨_, _, rfl, rfl, ⟨_, _, rfl, rfl, ⟨_, _, rfl, rfl, ⟨_, _, rfl, rfl, ⟨_, _, rfl, ⟨A6, c6, rfl, l6, g6⟩, ⟨_, _, rfl, s7, s12⟩⟩⟩⟩⟩⟩⟩⟩ := h
  obtain ⟨A10, c10, A11, c11, rfl, l10, g10, l11, g11⟩ := k44_open s7
  obtain ⟨A15, c15, A16, c16, rfl, l15, g15, l16, g16⟩ := k44_open s12
  exact ⟨A6, c6, A10, c10, A11, c11, A15, c15, A16, c16, rfl, l6, g6, l10, g10, l11, g11, l15, g15, l16, g16⟩
theorem k46_mkM (w : World) (base : Nat) (ok : Nat → Prop) (x : S46) {v6 : Value} (g6 : Kd.string.R 9 w base ok v6 x.f6) {v10 : Value} (g10 : Kd.string.R 9 w base ok v10 x.f7.f3) {v11 : Value} (g11 : k44.R 44 w base ok v11 x.f7.f4) {v15 : Value} (g15 : Kd.string.R 9 w base ok v15 x.f8.f3) {v16 : Value} (g16 : k44.R 44 w base ok v16 x.f8.f4) : k46.M w base ok x [.int .i64 x.f0, .string x.f1, .int .i64 x.f2, .int .i64 x.f3, .int .i64 x.f4, .bool x.f5, v6, .int .i64 x.f7.f0, .string x.f7.f1, .int .i64 x.f7.f2, v10, v11, .int .i64 x.f8.f0, .string x.f8.f1, .int .i64 x.f8.f2, v15, v16] := ⟨[.int .i64 x.f0], [.string x.f1, .int .i64 x.f2, .int .i64 x.f3, .int .i64 x.f4, .bool x.f5, v6, .int .i64 x.f7.f0, .string x.f7.f1, .int .i64 x.f7.f2, v10, v11, .int .i64 x.f8.f0, .string x.f8.f1, .int .i64 x.f8.f2, v15, v16], rfl, rfl, ⟨[.string x.f1], [.int .i64 x.f2, .int .i64 x.f3, .int .i64 x.f4, .bool x.f5, v6, .int .i64 x.f7.f0, .string x.f7.f1, .int .i64 x.f7.f2, v10, v11, .int .i64 x.f8.f0, .string x.f8.f1, .int .i64 x.f8.f2, v15, v16], rfl, rfl, ⟨[.int .i64 x.f2], [.int .i64 x.f3, .int .i64 x.f4, .bool x.f5, v6, .int .i64 x.f7.f0, .string x.f7.f1, .int .i64 x.f7.f2, v10, v11, .int .i64 x.f8.f0, .string x.f8.f1, .int .i64 x.f8.f2, v15, v16], rfl, rfl, ⟨[.int .i64 x.f3], [.int .i64 x.f4, .bool x.f5, v6, .int .i64 x.f7.f0, .string x.f7.f1, .int .i64 x.f7.f2, v10, v11, .int .i64 x.f8.f0, .string x.f8.f1, .int .i64 x.f8.f2, v15, v16], rfl, rfl, ⟨[.int .i64 x.f4], [.bool x.f5, v6, .int .i64 x.f7.f0, .string x.f7.f1, .int .i64 x.f7.f2, v10, v11, .int .i64 x.f8.f0, .string x.f8.f1, .int .i64 x.f8.f2, v15, v16], rfl, rfl, ⟨[.bool x.f5], [v6, .int .i64 x.f7.f0, .string x.f7.f1, .int .i64 x.f7.f2, v10, v11, .int .i64 x.f8.f0, .string x.f8.f1, .int .i64 x.f8.f2, v15, v16], rfl, rfl, ⟨[v6], [.int .i64 x.f7.f0, .string x.f7.f1, .int .i64 x.f7.f2, v10, v11, .int .i64 x.f8.f0, .string x.f8.f1, .int .i64 x.f8.f2, v15, v16], rfl, ⟨v6, rfl, g6⟩, ⟨[.int .i64 x.f7.f0, .string x.f7.f1, .int .i64 x.f7.f2, v10, v11], [.int .i64 x.f8.f0, .string x.f8.f1, .int .i64 x.f8.f2, v15, v16], rfl, (k44_mkM w base ok x.f7 g10 g11), (k44_mkM w base ok x.f8 g15 g16)⟩⟩⟩⟩⟩⟩⟩⟩
def rd_T46 (xs : List S46) (i : Int) : S46 := xs.getD i.toNat z46
theorem at_T46 {w : World} {A : Option Addr} {n : Nat} {xs : List S46} (h : Kd.C k46 w A n xs) (i : Int) (h0 : 0 ≤ i) (h1 : i < n) : ∃ ad A6 c6 A10 c10 A11 c11 A15 c15 A16 c16, A = some ad ∧ w.cell? (ad.add (i.toNat * 17)) = some (.int .i64 (rd_T46 xs i).f0) ∧ w.cell? ⟨(ad.add (i.toNat * 17)).block, (ad.add (i.toNat * 17)).off + 1, none⟩ = some (.string (rd_T46 xs i).f1) ∧ w.cell? ⟨(ad.add (i.toNat * 17)).block, (ad.add (i.toNat * 17)).off + 2, none⟩ = some (.int .i64 (rd_T46 xs i).f2) ∧ w.cell? ⟨(ad.add (i.toNat * 17)).block, (ad.add (i.toNat * 17)).off + 3, none⟩ = some (.int .i64 (rd_T46 xs i).f3) ∧ w.cell? ⟨(ad.add (i.toNat * 17)).block, (ad.add (i.toNat * 17)).off + 4, none⟩ = some (.int .i64 (rd_T46 xs i).f4) ∧ w.cell? ⟨(ad.add (i.toNat * 17)).block, (ad.add (i.toNat * 17)).off + 5, none⟩ = some (.bool (rd_T46 xs i).f5) ∧ w.cell? ⟨(ad.add (i.toNat * 17)).block, (ad.add (i.toNat * 17)).off + 6, none⟩ = some (.slice A6 (rd_T46 xs i).f6.length c6) ∧ w.cell? ⟨(ad.add (i.toNat * 17)).block, (ad.add (i.toNat * 17)).off + 7, none⟩ = some (.int .i64 (rd_T46 xs i).f7.f0) ∧ w.cell? ⟨(ad.add (i.toNat * 17)).block, (ad.add (i.toNat * 17)).off + 8, none⟩ = some (.string (rd_T46 xs i).f7.f1) ∧ w.cell? ⟨(ad.add (i.toNat * 17)).block, (ad.add (i.toNat * 17)).off + 9, none⟩ = some (.int .i64 (rd_T46 xs i).f7.f2) ∧ w.cell? ⟨(ad.add (i.toNat * 17)).block, (ad.add (i.toNat * 17)).off + 10, none⟩ = some (.slice A10 (rd_T46 xs i).f7.f3.length c10) ∧ w.cell? ⟨(ad.add (i.toNat * 17)).block, (ad.add (i.toNat * 17)).off + 11, none⟩ = some (.slice A11 (rd_T46 xs i).f7.f4.length c11) ∧ w.cell? ⟨(ad.add (i.toNat * 17)).block, (ad.add (i.toNat * 17)).off + 12, none⟩ = some (.int .i64 (rd_T46 xs i).f8.f0) ∧ w.cell? ⟨(ad.add (i.toNat * 17)).block, (ad.add (i.toNat * 17)).off + 13, none⟩ = some (.string (rd_T46 xs i).f8.f1) ∧ w.cell? ⟨(ad.add (i.toNat * 17)).block, (ad.add (i.toNat * 17)).off + 14, none⟩ = some (.int .i64 (rd_T46 xs i).f8.f2) ∧ w.cell? ⟨(ad.add (i.toNat * 17)).block, (ad.add (i.toNat * 17)).off + 15, none⟩ = some (.slice A15 (rd_T46 xs i).f8.f3.length c15) ∧ w.cell? ⟨(ad.add (i.toNat * 17)).block, (ad.add (i.toNat * 17)).off + 16, none⟩ = some (.slice A16 (rd_T46 xs i).f8.f4.length c16) ∧ (rd_T46 xs i).f6.length ≤ c6 ∧ Kd.string.C w A6 (rd_T46 xs i).f6.length (rd_T46 xs i).f6 ∧ (rd_T46 xs i).f7.f3.length ≤ c10 ∧ Kd.string.C w A10 (rd_T46 xs i).f7.f3.length (rd_T46 xs i).f7.f3 ∧ (rd_T46 xs i).f7.f4.length ≤ c11 ∧ k44.C w A11 (rd_T46 xs i).f7.f4.length (rd_T46 xs i).f7.f4 ∧ (rd_T46 xs i).f8.f3.length ≤ c15 ∧ Kd.string.C w A15 (rd_T46 xs i).f8.f3.length (rd_T46 xs i).f8.f3 ∧ (rd_T46 xs i).f8.f4.length ≤ c16 ∧ k44.C w A16 (rd_T46 xs i).f8.f4.length (rd_T46 xs i).f8.f4 := by
  obtain ⟨ad, c, e, _, hK, hc0⟩ := Kd.C_get h z46 i h0 h1
  have hc : ∀ j u, c[j]? = some u → w.cell? (ad.add (i.toNat * 17 + j)) = some u := hc0
  obtain ⟨A6, c6, A10, c10, A11, c11, A15, c15, A16, c16, rfl, l6, g6, l10, g10, l11, g11, l15, g15, l16, g16⟩ := k46_open hK
  exact ⟨ad, A6, c6, A10, c10, A11, c11, A15, c15, A16, c16, e, hc 0 _ rfl, by rw [← add_field _ _ 1 (by omega)]; exact hc 1 _ rfl, by rw [← add_field _ _ 2 (by omega)]; exact hc 2 _ rfl, by rw [← add_field _ _ 3 (by omega)]; exact hc 3 _ rfl, by rw [← add_field _ _ 4 (by omega)]; exact hc 4 _ rfl, by rw [← add_field _ _ 5 (by omega)]; exact hc 5 _ rfl, by rw [← add_field _ _ 6 (by omega)]; exact hc 6 _ rfl, by rw [← add_field _ _ 7 (by omega)]; exact hc 7 _ rfl, by rw [← add_field _ _ 8 (by omega)]; exact hc 8 _ rfl, by rw [← add_field _ _ 9 (by omega)]; exact hc 9 _ rfl, by rw [← add_field _ _ 10 (by omega)]; exact hc 10 _ rfl, by rw [← add_field _ _ 11 (by omega)]; exact hc 11 _ rfl, by rw [← add_field _ _ 12 (by omega)]; exact hc 12 _ rfl, by rw [← add_field _ _ 13 (by omega)]; exact hc 13 _ rfl, by rw [← add_field _ _ 14 (by omega)]; exact hc 14 _ rfl, by rw [← add_field _ _ 15 (by omega)]; exact hc 15 _ rfl, by rw [← add_field _ _ 16 (by omega)]; exact hc 16 _ rfl, l6, g6, l10, g10, l11, g11, l15, g15, l16, g16⟩

/-! #### struct type 90 -/
structure S90 where
  f0 : Int
  f1 : Bool
  f2 : S46
def k90 : Kd S90 := Kd.iso (Kd.pair (Kd.int .i64) (Kd.pair Kd.bool k46)) (fun x : S90 => (x.f0, x.f1, x.f2))
/-! #### struct type 143 -/
structure S143 where
  f0 : ByteArray
  f1 : ByteArray
end Go.Proofs.Ytmoiacijklkfaaa.G

/- PBase -/
/-
  Plain facts under the laws: wraps, sizes that are counted down, marks.
-/
namespace Go.Proofs.Ytmoiacijklkfaaa.G
open Go.RowKit Go.Proofs.YtmoiacijklkfaaaW.PrintWords Go.Proofs.YtmoiacijklkfaaaW.PrintLast Go.Proofs.YtmoiacijklkfaaaW.PrintMore
set_option linter.unusedVariables false
set_option linter.unusedSimpArgs false

theorem w64 {x : Int} (h : -9223372036854775808 ≤ x) (h' : x ≤ 9223372036854775807) : wrap64 x = x := by unfold wrap64; omega
theorem ev_if_pos {α : Type} {c : Prop} [Decidable c] {g f : Nat → Option α} {r : α} (h : c) (k : Ev g r) : Ev (fun n => if c then g n else f n) r := Ev.congr (fun n => if_pos h) k
theorem ev_if_neg {α : Type} {c : Prop} [Decidable c] {g f : Nat → Option α} {r : α} (h : ¬ c) (k : Ev f r) : Ev (fun n => if c then g n else f n) r := Ev.congr (fun n => if_neg h) k
theorem ev_some {α : Type} {a r : α} (h : a = r) : Ev (fun _ => some a) r := h ▸ Ev.now r
theorem ev_rw {α : Type} {g : Nat → Option α} {a b : α} (h : Ev g a) (e : a = b) : Ev g b := e ▸ h
theorem take_set_succ {α : Type} (ys : List α) (i : Nat) (h : i < ys.length) (a : α) : (ys.set i a).take (i + 1) = ys.take i ++ [a] := by
  rw [List.take_succ_eq_append_getElem (by simpa using h), List.take_set_of_le (Nat.le_refl i), List.getElem_set_self]
/-- A size is taken off what is left; -1 where it is more. -/
def szR (left : Int) (tot : Nat) : Int := if (tot : Int) ≤ left then left - tot else -1
theorem szR_nonneg {left : Int} {tot : Nat} (h : 0 ≤ szR left tot) : (tot : Int) ≤ left := by unfold szR at h; split at h <;> omega
theorem szR_add {left : Int} (h : 0 ≤ left) (a b : Nat) : szR left (a + b) = if szR left a < 0 then -1 else szR (szR left a) b := by
  unfold szR
  by_cases h1 : (a : Int) ≤ left
  · simp only [if_pos h1]
    rw [if_neg (by omega : ¬ left - (a : Int) < 0)]
    by_cases h2 : ((a + b : Nat) : Int) ≤ left
    · rw [if_pos h2, if_pos (by omega)]; omega
    · rw [if_neg h2, if_neg (by omega)]
  · simp only [if_neg h1]
    rw [if_neg (by omega : ¬ ((a + b : Nat) : Int) ≤ left), if_pos (by omega)]
theorem szR_le {left : Int} (h : 0 ≤ left) (a : Nat) : szR left a ≤ left ∧ -1 ≤ szR left a := by unfold szR; split <;> omega
theorem szR_neg {left : Int} {a : Nat} (h : left < a) : szR left a = -1 := by unfold szR; rw [if_neg (by omega)]
theorem szR_pos {left : Int} {a : Nat} (h : (a : Int) ≤ left) : szR left a = left - a := by unfold szR; rw [if_pos h]
theorem szR_zero {left : Int} (h : 0 ≤ left) : szR left 0 = left := by rw [szR_pos (by simpa using h)]; simp

theorem le_sum_map {α : Type} (f : α → Nat) : ∀ {xs : List α} {x : α}, x ∈ xs → f x ≤ (xs.map f).sum
  | y :: ys, x, h => by
    rw [List.map_cons, List.sum_cons]
    rcases List.mem_cons.1 h with rfl | h
    · omega
    · have := le_sum_map f h; omega
/-! ### loops -/
theorem wsucc {i n : Nat} (h : i < n) (hn : n ≤ 9223372036854775807) : wrap64 ((i : Int) + 1) = ((i + 1 : Nat) : Int) := by rw [w64 (by omega) (by omega)]; rfl
def allN (n : Nat) (ok : Nat → Bool) : Bool := (List.range n).all ok
theorem allN_true {n : Nat} {ok : Nat → Bool} : allN n ok = true ↔ ∀ i, i < n → ok i = true := by simp [allN]
/-- A loop that answers false at the first place that is not right, and fin behind the last. -/
theorem loop_all {g : Nat → Int → Option Bool} (n : Nat) (ok : Nat → Bool) (fin : Bool) (h1 : ∀ i, i < n → ok i = true → ∀ r, Ev (fun k => g k ((i + 1 : Nat) : Int)) r → Ev (fun k => g k (i : Int)) r)
    (h2 : ∀ i, i < n → ok i = false → Ev (fun k => g k (i : Int)) false) (h3 : Ev (fun k => g k (n : Int)) fin) : Ev (fun k => g k 0) (allN n ok && fin) := by
  have key : ∀ d i, i + d = n → (∀ j, j < i → ok j = true) → Ev (fun k => g k (i : Int)) (allN n ok && fin) := by
    intro d
    induction d with
    | zero =>
      intro i hi hok
      obtain rfl : i = n := by omega
      rw [allN_true.2 hok, Bool.true_and]
      exact h3
    | succ d ih =>
      intro i hi hok
      cases hc : ok i with
      | true => exact h1 i (by omega) hc _ (ih (i + 1) (by omega) (fun j hj => by rcases Nat.lt_succ_iff_lt_or_eq.1 hj with h | rfl; exact hok j h; exact hc))
      | false =>
        have : allN n ok = false := by
          rw [← Bool.not_eq_true, allN_true]
          intro h
          rw [h i (by omega)] at hc
          cases hc
        rw [this, Bool.false_and]
        exact h2 i (by omega) hc
  exact key n 0 (by omega) (by intro j hj; omega)
end Go.Proofs.Ytmoiacijklkfaaa.G

/- PStr0 -/
/-
  Lists of texts: read, well formed.
-/
namespace Go.Proofs.Ytmoiacijklkfaaa.G
open Go.RowKit Go.Proofs.YtmoiacijklkfaaaW.PrintWords Go.Proofs.YtmoiacijklkfaaaW.PrintLast Go.Proofs.YtmoiacijklkfaaaW.PrintMore
set_option linter.unusedVariables false
set_option linter.unusedSimpArgs false
theorem rdS {xs : List ByteArray} {i : Nat} (h : i < xs.length) : rdOf ByteArray.empty xs (i : Int) = xs[i] := by unfold rdOf; rw [Int.toNat_natCast]; exact getD_at h _
def wfStrs (xs : List ByteArray) : Prop := xs.length ≤ 9223372036854775807 ∧ ∀ x ∈ xs, x.size ≤ 9223372036854775807
end Go.Proofs.Ytmoiacijklkfaaa.G

/- G50 -/
-- Laid by wip/g/gprint.py out of the translation, by the kit's print program. Lean checks it.
namespace Go.Proofs.Ytmoiacijklkfaaa.G
open Go.RowKit Go.Proofs.YtmoiacijklkfaaaW.PrintWords Go.Proofs.YtmoiacijklkfaaaW.PrintLast Go.Proofs.YtmoiacijklkfaaaW.PrintMore
attribute [local go_sem] max2_int min2_int max_two min_two max_three min_three max_four min_four   -- for this text's walks alone
set_option linter.unusedVariables false
set_option linter.unusedSimpArgs false

/-! ### laws_eqStringS: function 50 -/
def laws_eqStringS.l0 : Nat → List ByteArray → List ByteArray → Int → Option (Bool)
  | 0, _, _, _ => none
  | k + 1, x0, x1, x5 => if x5 < (x0.length : Int) then (if 0 ≤ x5 then (if x5 < (x1.length : Int) then (if (rdOf ByteArray.empty x0 x5).toList = (rdOf ByteArray.empty x1 x5).toList then (laws_eqStringS.l0 k x0 x1 (wrap64 (x5 + 1))) else (some false)) else (none)) else (none)) else (some true)
def laws_eqStringS.f (k : Nat) (l0 : List ByteArray) (l1 : List ByteArray) : Option (Bool) := if (l0.length : Int) = (l1.length : Int) then (laws_eqStringS.l0 k l0 l1 0) else (some false)
set_option maxHeartbeats 8000000 in
set_option maxRecDepth 100000 in
theorem laws_eqStringS.calls (k : Nat) (A0 : Option Addr) (c0 : Nat) (l0 : List ByteArray) (A1 : Option Addr) (c1 : Nat) (l1 : List ByteArray) (r : Bool) (w : World) (hr0 : Kd.C Kd.string w A0 l0.length l0) (hc0 : l0.length ≤ c0) (hr1 : Kd.C Kd.string w A1 l1.length l1) (hc1 : l1.length ≤ c1) (h : laws_eqStringS.f k l0 l1 = some r) :
    Calls Try.prog 50 #[.slice A0 l0.length c0, .slice A1 l1.length c1] w fun e w' => e = .returned (.bool r) ∧ Drawn0 w w' := by
  have HR0 := Aside0.mk hr0
  have HC0 := Aside0.mk hc0
  clear hr0 hc0
  have HR1 := Aside0.mk hr1
  have HC1 := Aside0.mk hc1
  clear hr1 hc1
  have H : (if (l0.length : Int) = (l1.length : Int) then (laws_eqStringS.l0 k l0 l1 0) else (some false)) = some r := h
  clear h
  by_cases c3 : (l0.length : Int) = (l1.length : Int)
  · rw [if_pos c3] at H
    have c3b0 : ((l0.length : Int) == (l1.length : Int)) = true := beq_iff_eq.mpr c3
    have c3b1 : ((l0.length : Int) != (l1.length : Int)) = false := bne_eq_false_iff_eq.mpr c3
    have c3b2 : (l0.length == l1.length) = true := by first | simpa using c3 | (simp at c3 ⊢; omega)
    clear c3
    have H' := Aside0.mk H
    clear H
    go_enter Try.func50, Try.ntmps50
    go_wp2
    repeat (go_quiet (fail); try go_wp2)
    go_loopg [5] k (fun kq v5 w' => ∃ (x5_1 : Int), v5 = .int .i64 x5_1 ∧ Aside0 (laws_eqStringS.l0 kq l0 l1 x5_1 = some r) ∧ Aside0 (kq ≤ k) ∧ Drawn0 w w')
    case atStart => exact ⟨(0), (by first | rfl | (simp; done) | (simp [*]; done)), H', ⟨Nat.le_refl _⟩, by repeat (first | exact Drawn0.refl _ | apply Drawn0.step)⟩
    case round =>
      clear H'
      try clear c1
      try clear p2
      try clear c3
      try clear c3b0
      try clear c3b1
      try clear c3b2
      obtain ⟨x5_1, rfl, HA, HK1, ⟨m1, rfl⟩⟩ := hrel
      cases gk with
      | zero => exact absurd HA.out (by simp [laws_eqStringS.l0])
      | succ k1 =>
        have H := HA.out
        clear HA
        simp only [laws_eqStringS.l0] at H
        by_cases c4 : x5_1 < (l0.length : Int)
        · rw [if_pos c4] at H
          have c4b0 : decide (x5_1 < (l0.length : Int)) = true := decide_eq_true c4
          clear c4
          by_cases c5 : 0 ≤ x5_1
          · rw [if_pos c5] at H
            have c5b0 : decide (0 ≤ x5_1) = true := decide_eq_true c5
            clear c5
            by_cases c6 : x5_1 < (l1.length : Int)
            · rw [if_pos c6] at H
              have c6b0 : decide (x5_1 < (l1.length : Int)) = true := decide_eq_true c6
              clear c6
              by_cases c7 : (rdOf ByteArray.empty l0 x5_1).toList = (rdOf ByteArray.empty l1 x5_1).toList
              · rw [if_pos c7] at H
                have c7b0 : ((rdOf ByteArray.empty l0 x5_1).toList == (rdOf ByteArray.empty l1 x5_1).toList) = true := beq_iff_eq.mpr c7
                have c7b1 : ((rdOf ByteArray.empty l0 x5_1).toList != (rdOf ByteArray.empty l1 x5_1).toList) = false := bne_eq_false_iff_eq.mpr c7
                clear c7
                have H' := Aside0.mk H
                clear H
                have p1004 : 0 ≤ (x5_1 : Int) := of_decide_eq_true (by first | (with_reducible assumption) | assumption)
                have q1004 : x5_1 < (l0.length : Int) := of_decide_eq_true (by first | (with_reducible assumption) | assumption)
                obtain ⟨ad1004, e1004, hx1004_0⟩ := Kd.at_string HR0.out x5_1 p1004 q1004
                cases e1004
                replace p1004 := eq_true p1004
                replace q1004 := eq_true q1004
                have p1005 : 0 ≤ (x5_1 : Int) := of_decide_eq_true (by first | (with_reducible assumption) | assumption)
                have q1005 : x5_1 < (l1.length : Int) := of_decide_eq_true (by first | (with_reducible assumption) | assumption)
                obtain ⟨ad1005, e1005, hx1005_0⟩ := Kd.at_string HR1.out x5_1 p1005 q1005
                cases e1005
                replace p1005 := eq_true p1005
                replace q1005 := eq_true q1005
                go_wp2
                repeat (go_quiet (fail); try go_wp2)
                go_roundg k1
                case measure => have := HK1.out; omega
                case rel => exact ⟨(wrap64 (x5_1 + 1)), (by first | rfl | (simp; done) | (simp [*]; done)), H', ⟨by have := HK1.out; omega⟩, by repeat (first | exact Drawn0.refl _ | apply Drawn0.step)⟩
              · rw [if_neg c7] at H
                have c7b0 : ((rdOf ByteArray.empty l0 x5_1).toList == (rdOf ByteArray.empty l1 x5_1).toList) = false := beq_eq_false_iff_ne.mpr c7
                have c7b1 : ((rdOf ByteArray.empty l0 x5_1).toList != (rdOf ByteArray.empty l1 x5_1).toList) = true := bne_iff_ne.mpr c7
                obtain rfl := Option.some.inj H
                have p1004 : 0 ≤ (x5_1 : Int) := of_decide_eq_true (by first | (with_reducible assumption) | assumption)
                have q1004 : x5_1 < (l0.length : Int) := of_decide_eq_true (by first | (with_reducible assumption) | assumption)
                obtain ⟨ad1004, e1004, hx1004_0⟩ := Kd.at_string HR0.out x5_1 p1004 q1004
                cases e1004
                replace p1004 := eq_true p1004
                replace q1004 := eq_true q1004
                have p1005 : 0 ≤ (x5_1 : Int) := of_decide_eq_true (by first | (with_reducible assumption) | assumption)
                have q1005 : x5_1 < (l1.length : Int) := of_decide_eq_true (by first | (with_reducible assumption) | assumption)
                obtain ⟨ad1005, e1005, hx1005_0⟩ := Kd.at_string HR1.out x5_1 p1005 q1005
                cases e1005
                replace p1005 := eq_true p1005
                replace q1005 := eq_true q1005
                go_wp2
                repeat (go_quiet (fail); try go_wp2)
                go_ret
                exact ⟨by first | rfl | (simp; done) | (simp [*]; done), by repeat (first | exact Drawn0.refl _ | apply Drawn0.step)⟩
            · rw [if_neg c6] at H
              exact absurd H (by simp)
          · rw [if_neg c5] at H
            exact absurd H (by simp)
        · rw [if_neg c4] at H
          have c4b0 : decide (x5_1 < (l0.length : Int)) = false := decide_eq_false c4
          clear c4
          obtain rfl := Option.some.inj H
          go_wp2
          repeat (go_quiet (fail); try go_wp2)
          go_ret
          exact ⟨by first | rfl | (simp; done) | (simp [*]; done), by repeat (first | exact Drawn0.refl _ | apply Drawn0.step)⟩
  · rw [if_neg c3] at H
    have c3b0 : ((l0.length : Int) == (l1.length : Int)) = false := beq_eq_false_iff_ne.mpr c3
    have c3b1 : ((l0.length : Int) != (l1.length : Int)) = true := bne_iff_ne.mpr c3
    have c3b2 : (l0.length == l1.length) = false := by first | simpa using c3 | (simp at c3 ⊢; omega)
    obtain rfl := Option.some.inj H
    go_enter Try.func50, Try.ntmps50
    go_wp2
    repeat (go_quiet (fail); try go_wp2)
    go_ret
    exact ⟨by first | rfl | (simp; done) | (simp [*]; done), by repeat (first | exact Drawn0.refl _ | apply Drawn0.step)⟩

end Go.Proofs.Ytmoiacijklkfaaa.G

/- PStrEq -/
/-
  Lists of strings compared.
-/
namespace Go.Proofs.Ytmoiacijklkfaaa.G
open Go.RowKit Go.Proofs.YtmoiacijklkfaaaW.PrintWords Go.Proofs.YtmoiacijklkfaaaW.PrintLast Go.Proofs.YtmoiacijklkfaaaW.PrintMore
set_option linter.unusedVariables false
set_option linter.unusedSimpArgs false
theorem eqStringS_ev (xs : List ByteArray) (hl : xs.length ≤ 9223372036854775807) : Ev (fun k => laws_eqStringS.f k xs xs) true := by
  unfold laws_eqStringS.f
  refine ev_if_pos rfl ?_
  have := loop_all (g := fun k i => laws_eqStringS.l0 k xs xs i) xs.length (fun _ => true) true (fun i hi _ r hr => ?_) (fun i hi h => by cases h) (Ev.step (fun k => by rw [laws_eqStringS.l0]) (ev_if_neg (by omega) (Ev.now _)))
  · rw [allN_true.2 (fun _ _ => rfl)] at this; exact this
  · refine Ev.step (fun k => by rw [laws_eqStringS.l0]) ?_
    simp only [wsucc hi hl]
    exact ev_if_pos (by omega) (ev_if_pos (by omega) (ev_if_pos (by omega) (ev_if_pos (by first | trivial | rfl) hr)))
end Go.Proofs.Ytmoiacijklkfaaa.G

/- G46 -/
-- Laid by wip/g/gprint.py out of the translation, by the kit's print program. Lean checks it.
namespace Go.Proofs.Ytmoiacijklkfaaa.G
open Go.RowKit Go.Proofs.YtmoiacijklkfaaaW.PrintWords Go.Proofs.YtmoiacijklkfaaaW.PrintLast Go.Proofs.YtmoiacijklkfaaaW.PrintMore
attribute [local go_sem] max2_int min2_int max_two min_two max_three min_three max_four min_four   -- for this text's walks alone
set_option linter.unusedVariables false
set_option linter.unusedSimpArgs false

/-! ### laws_szStringS: function 46 -/
def laws_szStringS.l0 : Nat → List ByteArray → Int → Int → Option (Int)
  | 0, _, _, _ => none
  | k + 1, x0, x1, x5 => if x5 < (x0.length : Int) then (if 0 ≤ x5 then (if (wrap64 (x1 - ((rdOf ByteArray.empty x0 x5).size : Int))) < 0 then (some (-1)) else (laws_szStringS.l0 k x0 (wrap64 (x1 - ((rdOf ByteArray.empty x0 x5).size : Int))) (wrap64 (x5 + 1)))) else (none)) else (some x1)
def laws_szStringS.f (k : Nat) (l0 : List ByteArray) (a1 : Int) : Option (Int) := if (wrap64 (a1 - (l0.length : Int))) < 0 then (some (-1)) else (laws_szStringS.l0 k l0 (wrap64 (a1 - (l0.length : Int))) 0)
set_option maxHeartbeats 8000000 in
set_option maxRecDepth 100000 in
theorem laws_szStringS.calls (k : Nat) (A0 : Option Addr) (c0 : Nat) (l0 : List ByteArray) (a1 : Int) (r : Int) (w : World) (hr0 : Kd.C Kd.string w A0 l0.length l0) (hc0 : l0.length ≤ c0) (h : laws_szStringS.f k l0 a1 = some r) :
    Calls Try.prog 46 #[.slice A0 l0.length c0, .int .i64 a1] w fun e w' => e = .returned (.int .i64 r) ∧ Drawn0 w w' := by
  have HR0 := Aside0.mk hr0
  have HC0 := Aside0.mk hc0
  clear hr0 hc0
  have H : (if (wrap64 (a1 - (l0.length : Int))) < 0 then (some (-1)) else (laws_szStringS.l0 k l0 (wrap64 (a1 - (l0.length : Int))) 0)) = some r := h
  clear h
  by_cases c3 : (wrap64 (a1 - (l0.length : Int))) < 0
  · rw [if_pos c3] at H
    have c3b0 : decide ((wrap64 (a1 - (l0.length : Int))) < 0) = true := decide_eq_true c3
    clear c3
    obtain rfl := Option.some.inj H
    go_enter Try.func46, Try.ntmps46
    go_wp2
    go_ret
    exact ⟨by first | rfl | (simp; done) | (simp [*]; done), by repeat (first | exact Drawn0.refl _ | apply Drawn0.step)⟩
  · rw [if_neg c3] at H
    have c3b0 : decide ((wrap64 (a1 - (l0.length : Int))) < 0) = false := decide_eq_false c3
    clear c3
    have H' := Aside0.mk H
    clear H
    go_enter Try.func46, Try.ntmps46
    go_wp2
    go_loopg [1, 5] k (fun kq v1 v5 w' => ∃ (x1_1 : Int) (x5_1 : Int), v1 = .int .i64 x1_1 ∧ v5 = .int .i64 x5_1 ∧ Aside0 (laws_szStringS.l0 kq l0 x1_1 x5_1 = some r) ∧ Aside0 (kq ≤ k) ∧ Drawn0 w w')
    case atStart => exact ⟨(wrap64 (a1 - (l0.length : Int))), (0), (by first | rfl | (simp; done) | (simp [*]; done)), (by first | rfl | (simp; done) | (simp [*]; done)), H', ⟨Nat.le_refl _⟩, by repeat (first | exact Drawn0.refl _ | apply Drawn0.step)⟩
    case round =>
      clear H'
      try clear p2
      try clear c3
      try clear c3b0
      obtain ⟨x1_1, x5_1, rfl, rfl, HA, HK1, ⟨m1, rfl⟩⟩ := hrel
      cases gk with
      | zero => exact absurd HA.out (by simp [laws_szStringS.l0])
      | succ k1 =>
        have H := HA.out
        clear HA
        simp only [laws_szStringS.l0] at H
        by_cases c4 : x5_1 < (l0.length : Int)
        · rw [if_pos c4] at H
          have c4b0 : decide (x5_1 < (l0.length : Int)) = true := decide_eq_true c4
          clear c4
          by_cases c5 : 0 ≤ x5_1
          · rw [if_pos c5] at H
            have c5b0 : decide (0 ≤ x5_1) = true := decide_eq_true c5
            clear c5
            by_cases c6 : (wrap64 (x1_1 - ((rdOf ByteArray.empty l0 x5_1).size : Int))) < 0
            · rw [if_pos c6] at H
              have c6b0 : decide ((wrap64 (x1_1 - ((rdOf ByteArray.empty l0 x5_1).size : Int))) < 0) = true := decide_eq_true c6
              clear c6
              obtain rfl := Option.some.inj H
              have p101 : 0 ≤ (x5_1 : Int) := of_decide_eq_true (by first | (with_reducible assumption) | assumption)
              have q101 : x5_1 < (l0.length : Int) := of_decide_eq_true (by first | (with_reducible assumption) | assumption)
              obtain ⟨ad101, e101, hx101_0⟩ := Kd.at_string HR0.out x5_1 p101 q101
              cases e101
              replace p101 := eq_true p101
              replace q101 := eq_true q101
              go_wp2
              go_ret
              exact ⟨by first | rfl | (simp; done) | (simp [*]; done), by repeat (first | exact Drawn0.refl _ | apply Drawn0.step)⟩
            · rw [if_neg c6] at H
              have c6b0 : decide ((wrap64 (x1_1 - ((rdOf ByteArray.empty l0 x5_1).size : Int))) < 0) = false := decide_eq_false c6
              clear c6
              have H' := Aside0.mk H
              clear H
              have p101 : 0 ≤ (x5_1 : Int) := of_decide_eq_true (by first | (with_reducible assumption) | assumption)
              have q101 : x5_1 < (l0.length : Int) := of_decide_eq_true (by first | (with_reducible assumption) | assumption)
              obtain ⟨ad101, e101, hx101_0⟩ := Kd.at_string HR0.out x5_1 p101 q101
              cases e101
              replace p101 := eq_true p101
              replace q101 := eq_true q101
              go_wp2
              go_roundg k1
              case measure => have := HK1.out; omega
              case rel => exact ⟨(wrap64 (x1_1 - ((rdOf ByteArray.empty l0 x5_1).size : Int))), (wrap64 (x5_1 + 1)), (by first | rfl | (simp; done) | (simp [*]; done)), (by first | rfl | (simp; done) | (simp [*]; done)), H', ⟨by have := HK1.out; omega⟩, by repeat (first | exact Drawn0.refl _ | apply Drawn0.step)⟩
          · rw [if_neg c5] at H
            exact absurd H (by simp)
        · rw [if_neg c4] at H
          have c4b0 : decide (x5_1 < (l0.length : Int)) = false := decide_eq_false c4
          clear c4
          obtain rfl := Option.some.inj H
          go_wp2
          go_ret
          exact ⟨by first | rfl | (simp; done) | (simp [*]; done), by repeat (first | exact Drawn0.refl _ | apply Drawn0.step)⟩

end Go.Proofs.Ytmoiacijklkfaaa.G

/- G48 -/
-- Laid by wip/g/gprint.py out of the translation, by the kit's print program. Lean checks it.
namespace Go.Proofs.Ytmoiacijklkfaaa.G
open Go.RowKit Go.Proofs.YtmoiacijklkfaaaW.PrintWords Go.Proofs.YtmoiacijklkfaaaW.PrintLast Go.Proofs.YtmoiacijklkfaaaW.PrintMore
attribute [local go_sem] max2_int min2_int max_two min_two max_three min_three max_four min_four   -- for this text's walks alone
set_option linter.unusedVariables false
set_option linter.unusedSimpArgs false

/-! ### laws_toStringS: function 48 -/
def laws_toStringS.l0 : Nat → List ByteArray → List ByteArray → Int → Option (List ByteArray)
  | 0, _, _, _ => none
  | k + 1, x0, x3, x4 => if x4 < (x0.length : Int) then (if 0 ≤ x4 then (if x4 < (x3.length : Int) then (laws_toStringS.l0 k x0 (x3.set (x4 : Int).toNat (rdOf ByteArray.empty x0 x4)) (wrap64 (x4 + 1))) else (none)) else (none)) else (some x3)
def laws_toStringS.f (k : Nat) (l0 : List ByteArray) : Option (List ByteArray) := if 0 ≤ (l0.length : Int) then (if ((l0.length : Int) : Int).toNat ≤ 17592186044416 then (laws_toStringS.l0 k l0 (List.replicate ((l0.length : Int) : Int).toNat (⟨#[]⟩ : ByteArray)) 0) else (none)) else (none)
set_option maxHeartbeats 8000000 in
set_option maxRecDepth 100000 in
theorem laws_toStringS.calls (k : Nat) (A0 : Option Addr) (c0 : Nat) (l0 : List ByteArray) (r : List ByteArray) (w : World) (hr0 : Kd.C Kd.string w A0 l0.length l0) (hc0 : l0.length ≤ c0) (h : laws_toStringS.f k l0 = some r) :
    Calls Try.prog 48 #[.slice A0 l0.length c0] w fun e w' => ∃ v0_ : Value, e = .returned (v0_) ∧ Kd.R Kd.string 9 w' w.heap.size (fun _ => True) v0_ r ∧ Below w.heap.size w w' := by
  have HR0 := Aside0.mk hr0
  have HC0 := Aside0.mk hc0
  clear hr0 hc0
  have HB := Aside0.mk (Below.refl w.heap.size w)
  have H : (if 0 ≤ (l0.length : Int) then (if ((l0.length : Int) : Int).toNat ≤ 17592186044416 then (laws_toStringS.l0 k l0 (List.replicate ((l0.length : Int) : Int).toNat (⟨#[]⟩ : ByteArray)) 0) else (none)) else (none)) = some r := h
  clear h
  by_cases c2 : 0 ≤ (l0.length : Int)
  · rw [if_pos c2] at H
    have c2b0 := eq_true c2
    have c2b1 : decide (0 ≤ (l0.length : Int)) = true := decide_eq_true c2
    clear c2
    by_cases c3 : ((l0.length : Int) : Int).toNat ≤ 17592186044416
    · rw [if_pos c3] at H
      have c3b0 := eq_true c3
      have c3b1 : decide (((l0.length : Int) : Int).toNat ≤ 17592186044416) = true := decide_eq_true c3
      clear c3
      obtain ⟨y624, hy624⟩ : ∃ y_ : List ByteArray, y_ = (List.replicate ((l0.length : Int) : Int).toNat (⟨#[]⟩ : ByteArray)) := ⟨_, rfl⟩
      replace H : (laws_toStringS.l0 k l0 y624 0) = some r := by first | (rw [hy624]; with_reducible exact H) | (have H2_ := (Option.bind_some _ _).symm.trans H; rw [hy624]; with_reducible exact H2_) | (have H2_ := (Option.bind_some _ _).symm.trans H; with_reducible exact H2_) | with_reducible exact H | (rw [hy624]; exact H) | exact H
      have Ny624 := Aside0.mk hy624
      clear hy624
      have H' := Aside0.mk H
      clear H
      go_enter Try.func48, Try.ntmps48
      go_wp2_with (first | ((with_reducible refine gate_dst (N := 7) rfl ?_); refine Kd.R_make Kd.string _ 9 rfl (N := 7) rfl 41 _ _ rfl (l0.length : Int) rfl rfl Try.underlying41 (.string ⟨#[]⟩) 16 info9 rfl (by decide) (by omega) (⟨#[]⟩ : ByteArray) (ok := fun _ => True) (okp := fun _ => True) rfl (fun _ hk => hk) trivial (of_decide_eq_true (by first | (with_reducible assumption) | assumption)) (Nat.le_trans (Nat.mul_le_mul_right _ (of_decide_eq_true (by first | (with_reducible assumption) | assumption) : (l0.length : Int).toNat ≤ 17592186044416)) (by omega)) (Below.refl _ _) (Nat.le_refl _) ?_; intro v625 w4 ho5 hb hg_ hnew_; clear hg_ hnew_; (first | rw [← Ny624.out] at ho5 | (simp only [Int.reduceToNat] at ho5; rw [← Ny624.out] at ho5)); have n0_ := Aside0.mk (Kd.R_lower ho5 (below_size (by repeat (first | (with_reducible first | exact HB.out | apply below_alloc | apply pw_below_drewN | apply below_drew1) | exact HB.out)))); have n1_ := Aside0.mk (below_step (by repeat (first | (with_reducible first | exact HB.out | apply below_alloc | apply pw_below_drewN | apply below_drew1) | exact HB.out)) hb); clear HB; have HO626 := n0_; have HB := n1_; clear n0_ n1_; clear hb ho5))
      go_loopg [4] k (fun kq v4 w' => ∃ (x3_1 : List ByteArray) (x4_1 : Int), v4 = .int .i64 x4_1 ∧ Aside0 (laws_toStringS.l0 kq l0 x3_1 x4_1 = some r) ∧ Aside0 (kq ≤ k) ∧ Aside0 (Kd.R Kd.string 9 w' w.heap.size (fun _ => True) v625 x3_1) ∧ Aside0 (Below w.heap.size w w'))
      case atStart => exact ⟨(y624), (0), (by first | rfl | (simp; done) | (simp [*]; done)), H', ⟨Nat.le_refl _⟩, ⟨by (with_reducible repeat (first | apply Kd.R_alloc | apply Kd.R_drewN | apply Kd.R_drew)); exact HO626.out⟩, ⟨by repeat (first | (with_reducible first | exact HB.out | apply below_alloc | apply pw_below_drewN | apply below_drew1) | exact HB.out)⟩⟩
      case round =>
        clear H'
        try clear c2
        try clear c2b0
        try clear c2b1
        try clear p2
        try clear c3
        try clear c3b0
        try clear c3b1
        try clear c4
        obtain ⟨x3_1, x4_1, rfl, HA, HK1, HO_3, HB⟩ := hrel
        cases gk with
        | zero => exact absurd HA.out (by simp [laws_toStringS.l0])
        | succ k1 =>
          have H := HA.out
          clear HA
          simp only [laws_toStringS.l0] at H
          by_cases c6 : x4_1 < (l0.length : Int)
          · rw [if_pos c6] at H
            have c6b0 : decide (x4_1 < (l0.length : Int)) = true := decide_eq_true c6
            clear c6
            by_cases c7 : 0 ≤ x4_1
            · rw [if_pos c7] at H
              have c7b0 : decide (0 ≤ x4_1) = true := decide_eq_true c7
              clear c7
              by_cases c8 : x4_1 < (x3_1.length : Int)
              · rw [if_pos c8] at H
                have c8b0 : decide (x4_1 < (x3_1.length : Int)) = true := decide_eq_true c8
                clear c8
                obtain ⟨y628, hy628⟩ : ∃ y_ : List ByteArray, y_ = (x3_1.set (x4_1 : Int).toNat (rdOf ByteArray.empty l0 x4_1)) := ⟨_, rfl⟩
                replace H : (laws_toStringS.l0 k1 l0 y628 (wrap64 (x4_1 + 1))) = some r := by first | (rw [hy628]; with_reducible exact H) | (have H2_ := (Option.bind_some _ _).symm.trans H; rw [hy628]; with_reducible exact H2_) | (have H2_ := (Option.bind_some _ _).symm.trans H; with_reducible exact H2_) | with_reducible exact H | (rw [hy628]; exact H) | exact H
                have Ny628 := Aside0.mk hy628
                clear hy628
                have H' := Aside0.mk H
                clear H
                have p627 : 0 ≤ (x4_1 : Int) := of_decide_eq_true (by first | (with_reducible assumption) | assumption)
                have q627 : x4_1 < (l0.length : Int) := of_decide_eq_true (by first | (with_reducible assumption) | assumption)
                obtain ⟨ad627, e627, hx627_0⟩ := Kd.at_string HR0.out x4_1 p627 q627
                cases e627
                replace hx627_0 := (HB.out.cell (World.block_lt_of_cell? w _ hx627_0)).trans hx627_0
                replace p627 := eq_true p627
                replace q627 := eq_true q627
                have p9 : 0 ≤ (x4_1 : Int) := of_decide_eq_true (by first | (with_reducible assumption) | assumption)
                have q9 : (x4_1 : Int) < ((x3_1.length : Int) : Int) := of_decide_eq_true (by first | (with_reducible assumption) | assumption)
                obtain ⟨go9, co9, eo9, gb9, gl9, cl9, HG9⟩ := Kd.R_form HO_3.out (by omega)
                (first | cases eo9 | (injection eo9 with ea_ en_ ec_; (first | subst ea_ | (injection ea_ with ea_; subst ea_)); subst ec_; clear en_))
                have GB9 := Aside0.mk gb9
                have GG9 := Aside0.mk HG9
                clear gb9 gl9 HG9
                obtain ⟨hx9_0, hf9_0⟩ := Kd.R_celln (⟨#[]⟩ : ByteArray) HO_3.out (x4_1 : Int) p9 q9
                replace p9 := eq_true p9
                replace q9 := eq_true q9
                have HP10 := Kd.R_putg HO_3.out (x4_1 : Int) (rdOf ByteArray.empty l0 x4_1)
                go_wp2_with (first | ((with_reducible refine gate_store (t := 9) (p := 20) rfl ?_); refine store_event (t := 9) (p := 20) (v := ?vo_w11) (w1 := (wr.setCell ⟨go9, (x4_1 : Int).toNat, none⟩ (.string (rdOf ByteArray.empty l0 x4_1)))) ?hg ?ho ?hn ?hr ?_; (case ho => rfl); (case hg => rfl); (case hn => rfl); (case hr => first | (go_simp; done) | (go_simp; rfl)); intro w11 hw; have hg : wr.grownBy w11 (some go9) := (by rw [hw]; exact HP10.2); have hp_ : Kd.R Kd.string 9 w11 w.heap.size (fun _ => True) (.slice (some ⟨go9, 0, none⟩) x3_1.length co9) y628 := (by rw [hw, Ny628.out]; exact HP10.1); clear HP10; have n0_ := Aside0.mk (hp_); have n1_ := Aside0.mk ((by rw [hw]; exact below_set (HB.out) GB9.out : Below w.heap.size w w11)); clear HO_3; clear HB; have HO_3 := n0_; have HB := n1_; clear n0_ n1_; clear hg hw hp_))
                go_roundg k1
                case measure => have := HK1.out; omega
                case rel => exact ⟨(y628), (wrap64 (x4_1 + 1)), (by first | rfl | (simp; done) | (simp [*]; done)), H', ⟨by have := HK1.out; omega⟩, ⟨by (with_reducible repeat (first | apply Kd.R_alloc | apply Kd.R_drewN | apply Kd.R_drew)); exact HO_3.out⟩, ⟨by repeat (first | (with_reducible first | exact HB.out | apply below_alloc | apply pw_below_drewN | apply below_drew1) | exact HB.out)⟩⟩
              · rw [if_neg c8] at H
                exact absurd H (by simp)
            · rw [if_neg c7] at H
              exact absurd H (by simp)
          · rw [if_neg c6] at H
            have c6b0 : decide (x4_1 < (l0.length : Int)) = false := decide_eq_false c6
            clear c6
            obtain rfl := Option.some.inj H
            go_wp2
            go_ret
            exact ⟨_, by first | rfl | (simp [errW_none, errW_some] <;> rfl) | (simp [*, errW_none, errW_some] <;> rfl), by (with_reducible repeat (first | apply Kd.R_alloc | apply Kd.R_drewN | apply Kd.R_drew)); exact HO_3.out, by repeat (first | (with_reducible first | exact HB.out | apply below_alloc | apply pw_below_drewN | apply below_drew1) | exact HB.out)⟩
    · rw [if_neg c3] at H
      exact absurd H (by simp)
  · rw [if_neg c2] at H
    exact absurd H (by simp)

end Go.Proofs.Ytmoiacijklkfaaa.G

/- PStrs -/
/-
  Lists of strings: sizes, copies, equality.
-/
namespace Go.Proofs.Ytmoiacijklkfaaa.G
open Go.RowKit Go.Proofs.YtmoiacijklkfaaaW.PrintWords Go.Proofs.YtmoiacijklkfaaaW.PrintLast Go.Proofs.YtmoiacijklkfaaaW.PrintMore
set_option linter.unusedVariables false
set_option linter.unusedSimpArgs false
/-! ### lists of strings -/
def totStrs (xs : List ByteArray) : Nat := xs.length + (xs.map ByteArray.size).sum
theorem szStringS_l0 (xs : List ByteArray) (hw : wfStrs xs) : ∀ (d i : Nat) (left : Int), i + d = xs.length → 0 ≤ left → left ≤ 1048576 → Ev (fun k => laws_szStringS.l0 k xs left i) (szR left ((xs.drop i).map ByteArray.size).sum)
  | 0, i, left, hd, h0, h1 => by
    refine Ev.step (f := fun _ => some left) (fun k => by rw [laws_szStringS.l0, if_neg (by omega)]) (ev_some ?_)
    rw [List.drop_of_length_le (by omega)]; exact (szR_zero h0).symm
  | d + 1, i, left, hd, h0, h1 => by
    have hi : i < xs.length := by omega
    have hs := hw.2 _ (List.getElem_mem hi)
    have e : ((xs.drop i).map ByteArray.size).sum = xs[i].size + ((xs.drop (i + 1)).map ByteArray.size).sum := by rw [List.drop_eq_getElem_cons hi, List.map_cons, List.sum_cons]
    rw [e, szR_add h0]
    refine Ev.step (fun k => by rw [laws_szStringS.l0]) ?_
    simp only [wsucc hi hw.1, rdS hi, w64 (by omega : -9223372036854775808 ≤ left - (xs[i].size : Int)) (by omega)]
    refine ev_if_pos (by omega) (ev_if_pos (by omega) ?_)
    by_cases c : left - (xs[i].size : Int) < 0
    · rw [szR_neg (by omega)]; exact ev_if_pos c (Ev.now _)
    · rw [szR_pos (by omega), if_neg c]; exact ev_if_neg c (szStringS_l0 xs hw d (i + 1) (left - (xs[i].size : Int)) (by omega) (by omega) (by omega))
theorem szStringS_ev (xs : List ByteArray) (left : Int) (hw : wfStrs xs) (h0 : 0 ≤ left) (h1 : left ≤ 1048576) : Ev (fun k => laws_szStringS.f k xs left) (szR left (totStrs xs)) := by
  have hl := hw.1
  unfold laws_szStringS.f totStrs
  rw [w64 (by omega) (by omega), szR_add h0]
  by_cases c : left - (xs.length : Int) < 0
  · rw [if_pos (by rw [szR_neg (by omega)]; omega)]; exact ev_if_pos c (Ev.now _)
  · rw [szR_pos (by omega), if_neg c]
    refine ev_if_neg c ?_
    have := szStringS_l0 xs hw xs.length 0 (left - (xs.length : Int)) (by omega) (by omega) (by omega)
    rw [List.drop_zero] at this
    exact this
theorem toStringS_l0 (xs : List ByteArray) (hl : xs.length ≤ 9223372036854775807) : ∀ (d i : Nat) (ys : List ByteArray), i + d = xs.length → ys.length = xs.length → Ev (fun k => laws_toStringS.l0 k xs ys i) (ys.take i ++ xs.drop i)
  | 0, i, ys, hd, hy => by
    refine Ev.step (f := fun _ => some ys) (fun k => by rw [laws_toStringS.l0, if_neg (by omega)]) (ev_some ?_)
    rw [List.take_of_length_le (by omega), List.drop_of_length_le (by omega)]; simp
  | d + 1, i, ys, hd, hy => by
    have hi : i < xs.length := by omega
    refine ev_rw (Ev.step (f := fun k => laws_toStringS.l0 k xs (ys.set i xs[i]) ((i + 1 : Nat) : Int)) (fun k => ?_) (toStringS_l0 xs hl d (i + 1) (ys.set i xs[i]) (by omega) (by simpa using hy))) ?_
    · rw [laws_toStringS.l0, if_pos (by omega), if_pos (by omega), rdS hi, if_pos (by omega), wsucc hi hl, Int.toNat_natCast]
    · rw [take_set_succ _ _ (by omega), List.drop_eq_getElem_cons hi, List.append_assoc]; rfl
theorem toStringS_ev (xs : List ByteArray) (hl : xs.length ≤ 1048576) : Ev (fun k => laws_toStringS.f k xs) xs := by
  unfold laws_toStringS.f
  refine ev_if_pos (by omega) (ev_if_pos (by simp; omega) ?_)
  have := toStringS_l0 xs (by omega) xs.length 0 (List.replicate ((xs.length : Int) : Int).toNat (⟨#[]⟩ : ByteArray)) (by omega) (by simp)
  simpa using this
end Go.Proofs.Ytmoiacijklkfaaa.G

/- GKOpen -/
/-
  An argument that can be read as data (the form's own reading) is of a kind 'Kd'; and what is known of it besides ('Wf').
-/
namespace Go.Proofs.Ytmoiacijklkfaaa.G
open Go.RowKit Go.Proofs.YtmoiacijklkfaaaW.PrintWords Go.Proofs.YtmoiacijklkfaaaW.PrintLast Go.Proofs.YtmoiacijklkfaaaW.PrintMore
set_option linter.unusedVariables false
section
variable {H : Type} {enc : TypeId × Value → H} {P : Program} {w : World} {base : Nat} {spare : Nat → Bool} {held : Bool}
def KOpens {α : Type} (enc : TypeId × Value → H) (P : Program) (w : World) (base : Nat) (spare : Nat → Bool) (held : Bool) (n : Nat) (t : TypeId) (k : Kd α) (Wf : α → Prop) : Prop :=
  ∀ cs x, DataW.trod enc P w base spare held n t cs = some x → ∃ a, Wf a ∧ k.K w a cs
def wfInt (i : Int) : Prop := -9223372036854775808 ≤ i ∧ i ≤ 9223372036854775807
def wfStr (s : ByteArray) : Prop := s.size ≤ 9223372036854775807
theorem kopens_int {n : Nat} {t : TypeId} (ht : P.underlying t = some (.int .i64)) : KOpens enc P w base spare held n t (Kd.int .i64) wfInt := by
  intro cs x h
  obtain ⟨i, rfl, _, hw⟩ := DataW.trod_int ht h
  have m1 : IntKind.i64.min = -9223372036854775808 := by decide
  have m2 : IntKind.i64.max = 9223372036854775807 := by decide
  simp only [Lit.wf, Bool.and_eq_true, decide_eq_true_eq, m1, m2] at hw
  exact ⟨i, hw, rfl⟩
theorem kopens_bool {n : Nat} {t : TypeId} (ht : P.underlying t = some .bool) : KOpens enc P w base spare held n t Kd.bool (fun _ => True) := by
  intro cs x h
  obtain ⟨i, rfl, _⟩ := DataW.trod_bool ht h
  exact ⟨i, trivial, rfl⟩
theorem kopens_str {n : Nat} {t : TypeId} (ht : P.underlying t = some .string) : KOpens enc P w base spare held n t Kd.string wfStr := by
  intro cs x h
  obtain ⟨i, rfl, _, hw⟩ := DataW.trod_string ht h
  unfold maxLen at hw
  exact ⟨i, hw, rfl⟩
theorem list_pick {α : Type} {P : Nat → α → Prop} : ∀ (n : Nat), (∀ i, i < n → ∃ a, P i a) → ∃ xs : List α, xs.length = n ∧ ∀ i (h : i < xs.length), P i xs[i]
  | 0, _ => ⟨[], rfl, by simp⟩
  | n + 1, h => by
    obtain ⟨xs, hl, hx⟩ := list_pick (P := P) n (fun i hi => h i (by omega))
    obtain ⟨a, ha⟩ := h n (by omega)
    refine ⟨xs ++ [a], by simp [hl], fun i hi => ?_⟩
    by_cases hin : i < xs.length
    · rw [List.getElem_append_left hin]; exact hx i hin
    · have : i = n := by simp at hi; omega
      subst this
      rw [List.getElem_append_right (by omega)]
      simpa using ha
theorem kopens_slice {α : Type} {n : Nat} {t e : TypeId} {k : Kd α} {Wf : α → Prop} (ht : P.underlying t = some (.slice e)) (hsz : P.cellsOf e = k.sz) (hpos : 0 < k.sz) (hby : ∀ xs : List α, True → True)
    (ho : ∀ m, m < n → KOpens enc P w base spare held m e k Wf) : KOpens enc P w base spare held n t (Kd.slice e k) (fun xs => xs.length ≤ 9223372036854775807 ∧ ∀ x ∈ xs, Wf x) := by
  intro cs x h
  rcases DataW.trod_slice ht h with ⟨rfl, _⟩ | ⟨a, len, cap, elems, rest, m, hn, rfl, _, hb, hl, hm, hlen, hel, _, _⟩
  · exact ⟨[], ⟨by simp, by simp⟩, none, 0, rfl, by simp, rfl, by simp, fun h => absurd h (by simp)⟩
  · unfold maxLen at hm
    have get : ∀ i, i < len → ∃ p : α, Wf p ∧ ∃ cs', w.cells? base (a.add (i * k.sz)) k.sz = some cs' ∧ k.K w p cs' := by
      intro i hi
      have h1 := hel i hi
      rw [hsz, List.getElem?_eq_getElem (by omega), Option.bind_eq_some_iff] at h1
      obtain ⟨cs', h1, h2⟩ := h1
      obtain ⟨p, hp, hK⟩ := ho m (by omega) _ _ h2
      exact ⟨p, hp, cs', h1, hK⟩
    obtain ⟨xs, hxl, hxs⟩ := list_pick len get
    refine ⟨xs, ⟨by omega, fun p hp => ?_⟩, some a, cap, by rw [hxl], by omega, rfl, by omega, fun _ => ⟨a, rfl, fun j p hj => ?_⟩⟩
    · obtain ⟨i, hi, rfl⟩ := List.getElem_of_mem hp
      exact (hxs i hi).1
    · obtain ⟨hjl, rfl⟩ := List.getElem?_eq_some_iff.1 hj
      obtain ⟨_, cs', hc, hK⟩ := hxs j hjl
      obtain ⟨_, hl', hat'⟩ := World.cells?_some hc
      refine ⟨cs', k.K_len hK, hK, fun i u hu => ?_⟩
      have hi := (List.getElem?_eq_some_iff.1 hu).1
      have h3 := hat' i (by rw [k.K_len hK] at hi; exact hi)
      rw [hu] at h3
      have ha : (a.add (j * k.sz)).add i = a.add (j * k.sz + i) := by
        unfold Addr.add
        by_cases h1 : j * k.sz = 0 <;> by_cases h2 : i = 0 <;> simp [h1, h2, Nat.add_assoc]
      rw [ha] at h3
      exact h3
/-- Fields, one behind the other from offset o on. -/
def KFields {α : Type} (enc : TypeId × Value → H) (P : Program) (w : World) (base : Nat) (spare : Nat → Bool) (held : Bool) (n : Nat) (fs : List (TypeId × Nat)) (o : Nat) (k : Kd α) (Wf : α → Prop) : Prop :=
  ∀ cs : List Value, cs.length = o + k.sz → (∀ f, f ∈ fs → ∃ x, DataW.trod enc P w base spare held n f.1 ((cs.drop f.2).take (P.cellsOf f.1)) = some x) → ∃ a, Wf a ∧ k.K w a (cs.drop o)
theorem kfields_one {α : Type} {n : Nat} {t : TypeId} {o : Nat} {k : Kd α} {Wf : α → Prop} (hsz : P.cellsOf t = k.sz) (h : KOpens enc P w base spare held n t k Wf) : KFields enc P w base spare held n [(t, o)] o k Wf := by
  intro cs hl hx
  obtain ⟨x, hx⟩ := hx (t, o) (by simp)
  simp only [hsz] at hx
  rw [List.take_of_length_le (by rw [List.length_drop]; omega)] at hx
  exact h _ _ hx
theorem kfields_cons {α β : Type} {n : Nat} {t : TypeId} {o o' : Nat} {fs : List (TypeId × Nat)} {k : Kd α} {k' : Kd β} {Wf : α → Prop} {Wf' : β → Prop} (hsz : P.cellsOf t = k.sz) (ho : o' = o + k.sz) (h : KOpens enc P w base spare held n t k Wf) (hs : KFields enc P w base spare held n fs o' k' Wf') :
    KFields enc P w base spare held n ((t, o) :: fs) o (Kd.pair k k') (fun p => Wf p.1 ∧ Wf' p.2) := by
  intro cs hl hx
  subst ho
  obtain ⟨x, h0⟩ := hx (t, o) (by simp)
  simp only [hsz] at h0
  obtain ⟨a, ha, hK⟩ := h _ _ h0
  have hl' : cs.length = o + (k.sz + k'.sz) := hl
  obtain ⟨b, hb, hK'⟩ := hs cs (by omega) (fun f hf => hx f (by simp [hf]))
  refine ⟨(a, b), ⟨ha, hb⟩, _, _, ?_, hK, hK'⟩
  rw [← List.drop_drop, List.take_append_drop]
theorem kopens_struct {α β : Type} {n : Nat} {t : TypeId} {fs : Array Field} {k : Kd α} {f : β → α} {g : α → β} {Wf : α → Prop} (hfg : ∀ a, f (g a) = a) (ht : P.underlying t = some (.struct fs)) (hc : P.cellsOf t = k.sz)
    (hs : ∀ m, m + 1 = n → KFields enc P w base spare held m (fs.toList.map fun f => (f.type, f.offset)) 0 k Wf) : KOpens enc P w base spare held n t (Kd.iso k f) (fun b => Wf (f b)) := by
  intro cs x h
  obtain ⟨xs, m, hn, _, hcl, hxl, hg⟩ := DataW.trod_struct ht h
  obtain ⟨a, ha, hK⟩ := hs m hn.symm cs (by rw [hcl, hc]; omega) (fun q hq => by
    obtain ⟨fl, hfl, rfl⟩ := List.mem_map.1 hq
    obtain ⟨i, hi, rfl⟩ := List.getElem_of_mem hfl
    have hi' : i < fs.size := by simpa using hi
    have := hg i fs[i] (by simp [hi'])
    refine ⟨xs[i]'(by rw [hxl]; exact hi'), ?_⟩
    rw [Array.getElem_toList, this]
    exact List.getElem?_eq_getElem (by rw [hxl]; exact hi'))
  rw [List.drop_zero] at hK
  refine ⟨g a, ?_, ?_⟩
  · show Wf (f (g a)); rw [hfg]; exact ha
  · show k.K w (f (g a)) cs; rw [hfg]; exact hK
end
end Go.Proofs.Ytmoiacijklkfaaa.G

/- GKArgs -/
/-
  The arguments of the laws, opened: at this dump's type numbers.
-/
namespace Go.Proofs.Ytmoiacijklkfaaa.G
open Go.RowKit Go.Proofs.YtmoiacijklkfaaaW.PrintWords Go.Proofs.YtmoiacijklkfaaaW.PrintLast Go.Proofs.YtmoiacijklkfaaaW.PrintMore
set_option linter.unusedVariables false
theorem int_wf {n : Int} (h : (Lit.int .i64 n).wf = true) : -9223372036854775808 ≤ n ∧ n ≤ 9223372036854775807 := by
  have m1 : IntKind.i64.min = -9223372036854775808 := by decide
  have m2 : IntKind.i64.max = 9223372036854775807 := by decide
  simpa only [Lit.wf, Bool.and_eq_true, decide_eq_true_eq, m1, m2] using h
section
variable {H : Type} {enc : TypeId × Value → H} {w : World} {base : Nat} {spare : Nat → Bool} {held : Bool} {v : Value} {d : DataW H} {p : List MemPlace} {r : Reach} {b0 : Nat}
abbrev VU (n : Nat) : Kd S67 := Kd.upto F67 5 [9, 67] n
def wfValN : Nat → S67 → Prop
  | 0, _ => False
  | n + 1, x => wfInt x.f0 ∧ wfStr x.f1 ∧ wfInt x.f2 ∧ (x.f3.length ≤ 9223372036854775807 ∧ ∀ y ∈ x.f3, wfStr y) ∧ (x.f4.length ≤ 9223372036854775807 ∧ ∀ y ∈ x.f4, wfValN n y)
theorem wfValN_le : ∀ {n m : Nat} {x : S67}, n ≤ m → wfValN n x → wfValN m x
  | 0, _, _, _, h => by rw [wfValN] at h; exact h.elim
  | n + 1, 0, _, hle, _ => by omega
  | n + 1, m + 1, x, hle, h => by
    rw [wfValN] at h ⊢
    exact ⟨h.1, h.2.1, h.2.2.1, h.2.2.2.1, h.2.2.2.2.1, fun y hy => wfValN_le (by omega) (h.2.2.2.2.2 y hy)⟩
def wfVal (x : S67) : Prop := ∃ n, wfValN n x
set_option maxRecDepth 20000 in
theorem kopens_value (n : Nat) : KOpens enc Try.prog w base spare held n 67 (VU (n + 1)) (wfValN (n + 1)) := by
  induction n using Nat.strongRecOn with
  | _ n ih =>
  have kid : ∀ m, m + 1 = n → KOpens enc Try.prog w base spare held m 65 (Kd.slice 67 (VU n)) (fun xs => xs.length ≤ 9223372036854775807 ∧ ∀ x ∈ xs, wfValN n x) := fun m hm =>
    kopens_slice Try.underlying65 (by rw [sz67]; kernel_rfl) (by rw [sz67]; decide) (fun _ _ => trivial) (fun j hj cs x h => by
      obtain ⟨a, ha, hK⟩ := ih j (by omega) cs x h
      exact ⟨a, wfValN_le (by omega) ha, Kd.upto_K_le mono67 sz67 (by omega) hK⟩)
  intro cs x h
  obtain ⟨a, ha, hK⟩ := kopens_struct (n := n) (t := 67) (k := Kd.pair (Kd.int .i64) (Kd.pair Kd.string (Kd.pair (Kd.int .i64) (Kd.pair (Kd.slice 9 Kd.string) (Kd.slice 67 (VU n))))))
    (f := fun x : S67 => (x.f0, x.f1, x.f2, x.f3, x.f4)) (g := fun (p : Int × ByteArray × Int × List ByteArray × List S67) => (⟨p.1, p.2.1, p.2.2.1, p.2.2.2.1, p.2.2.2.2⟩ : S67))
    (Wf := fun (p : Int × ByteArray × Int × List ByteArray × List S67) => wfInt p.1 ∧ wfStr p.2.1 ∧ wfInt p.2.2.1 ∧ (p.2.2.2.1.length ≤ 9223372036854775807 ∧ ∀ y ∈ p.2.2.2.1, wfStr y) ∧ (p.2.2.2.2.length ≤ 9223372036854775807 ∧ ∀ y ∈ p.2.2.2.2, wfValN n y))
    (fun _ => rfl) Try.underlying67 (by kernel_rfl)
    (fun m hm => kfields_cons (o' := 1) (by kernel_rfl) rfl (kopens_int Try.underlying3) (kfields_cons (o' := 2) (by kernel_rfl) rfl (kopens_str Try.underlying9) (kfields_cons (o' := 3) (by kernel_rfl) rfl (kopens_int Try.underlying3)
      (kfields_cons (o' := 4) (by kernel_rfl) rfl (kopens_slice Try.underlying41 (by kernel_rfl) (by decide) (fun _ _ => trivial) (fun m _ => kopens_str Try.underlying9)) (kfields_one (by kernel_rfl) (kid m hm)))))) cs x h
  exact ⟨a, by rw [wfValN]; exact ha, hK⟩
theorem kopens_valF (m : Nat) : KOpens enc Try.prog w base spare held m 67 k67 wfVal := fun cs x h => by
  obtain ⟨a, ha, hK⟩ := kopens_value m cs x h
  exact ⟨a, ⟨_, ha⟩, ⟨_, hK⟩⟩
def wfLObj (x : S121) : Prop := wfInt x.f0 ∧ wfStr x.f1 ∧ wfInt x.f2 ∧ wfInt x.f3 ∧ wfInt x.f4 ∧ True ∧ (x.f6.length ≤ 9223372036854775807 ∧ ∀ y ∈ x.f6, wfStr y) ∧ wfVal x.f7 ∧ wfVal x.f8
def wfLChg (x : S124) : Prop := wfInt x.f0 ∧ True ∧ wfLObj x.f2
set_option maxRecDepth 20000 in
theorem kopens_lobj (m : Nat) : KOpens enc Try.prog w base spare held m 121 k121 wfLObj :=
  kopens_struct (g := fun (p : Int × ByteArray × Int × Int × Int × Bool × List ByteArray × S67 × S67) => (⟨p.1, p.2.1, p.2.2.1, p.2.2.2.1, p.2.2.2.2.1, p.2.2.2.2.2.1, p.2.2.2.2.2.2.1, p.2.2.2.2.2.2.2.1, p.2.2.2.2.2.2.2.2⟩ : S121))
    (Wf := fun (p : Int × ByteArray × Int × Int × Int × Bool × List ByteArray × S67 × S67) => wfInt p.1 ∧ wfStr p.2.1 ∧ wfInt p.2.2.1 ∧ wfInt p.2.2.2.1 ∧ wfInt p.2.2.2.2.1 ∧ True ∧ (p.2.2.2.2.2.2.1.length ≤ 9223372036854775807 ∧ ∀ y ∈ p.2.2.2.2.2.2.1, wfStr y) ∧ wfVal p.2.2.2.2.2.2.2.1 ∧ wfVal p.2.2.2.2.2.2.2.2) (fun _ => rfl) Try.underlying121 (by kernel_rfl)
    (fun m _ => kfields_cons (o' := 1) (by kernel_rfl) rfl (kopens_int Try.underlying3) (kfields_cons (o' := 2) (by kernel_rfl) rfl (kopens_str Try.underlying9) (kfields_cons (o' := 3) (by kernel_rfl) rfl (kopens_int Try.underlying3) (kfields_cons (o' := 4) (by kernel_rfl) rfl (kopens_int Try.underlying3) (kfields_cons (o' := 5) (by kernel_rfl) rfl (kopens_int Try.underlying3) (kfields_cons (o' := 6) (by kernel_rfl) rfl (kopens_bool Try.underlying4)
      (kfields_cons (o' := 7) (by kernel_rfl) rfl (kopens_slice Try.underlying41 (by kernel_rfl) (by decide) (fun _ _ => trivial) (fun m _ => kopens_str Try.underlying9)) (kfields_cons (o' := 12) (by kernel_rfl) rfl (kopens_valF m) (kfields_one (by kernel_rfl) (kopens_valF m))))))))))
set_option maxRecDepth 20000 in
theorem kopens_lchg (m : Nat) : KOpens enc Try.prog w base spare held m 124 k124 wfLChg :=
  kopens_struct (g := fun (p : Int × Bool × S121) => (⟨p.1, p.2.1, p.2.2⟩ : S124)) (Wf := fun (p : Int × Bool × S121) => wfInt p.1 ∧ True ∧ wfLObj p.2.2) (fun _ => rfl) Try.underlying124 (by kernel_rfl)
    (fun m _ => kfields_cons (o' := 1) (by kernel_rfl) rfl (kopens_int Try.underlying3) (kfields_cons (o' := 2) (by kernel_rfl) rfl (kopens_bool Try.underlying4) (kfields_one (by kernel_rfl) (kopens_lobj m))))
/-- A law's base. -/
structure LBase where
  f0 : List S121
  f1 : Int
  f2 : Int
  f3 : List S124
def kLB : Kd LBase := Kd.iso (Kd.pair (Kd.slice 121 k121) (Kd.pair (Kd.int .i64) (Kd.pair (Kd.int .i64) (Kd.slice 124 k124)))) (fun x => (x.f0, x.f1, x.f2, x.f3))
theorem kLB_open {w : World} {x : LBase} {cs : List Value} (h : kLB.K w x cs) : ∃ A0 c0 A3 c3, cs = [.slice A0 x.f0.length c0, .int .i64 x.f1, .int .i64 x.f2, .slice A3 x.f3.length c3] ∧ x.f0.length ≤ c0 ∧ Kd.C k121 w A0 x.f0.length x.f0 ∧ x.f3.length ≤ c3 ∧ Kd.C k124 w A3 x.f3.length x.f3 := by
  obtain ⟨_, _, e0, ⟨A0, c0, h0, l0, g0⟩, _, _, e1, h1, _, _, e2, h2, A3, c3, h3, l3, g3⟩ := h
  subst e2
  subst e1
  subst e0
  exact ⟨A0, c0, A3, c3, by rw [h0, h1, h2, h3]; rfl, l0, g0, l3, g3⟩
def wfBase (s : LBase) : Prop := (s.f0.length ≤ 9223372036854775807 ∧ ∀ x ∈ s.f0, wfLObj x) ∧ wfInt s.f1 ∧ wfInt s.f2 ∧ (s.f3.length ≤ 9223372036854775807 ∧ ∀ x ∈ s.f3, wfLChg x)
set_option maxRecDepth 20000 in
theorem kopens_base (m : Nat) : KOpens enc Try.prog w base spare held m 25 kLB wfBase :=
  kopens_struct (g := fun (p : List S121 × Int × Int × List S124) => (⟨p.1, p.2.1, p.2.2.1, p.2.2.2⟩ : LBase)) (Wf := fun (p : List S121 × Int × Int × List S124) => (p.1.length ≤ 9223372036854775807 ∧ ∀ x ∈ p.1, wfLObj x) ∧ wfInt p.2.1 ∧ wfInt p.2.2.1 ∧ (p.2.2.2.length ≤ 9223372036854775807 ∧ ∀ x ∈ p.2.2.2, wfLChg x)) (fun _ => rfl) Try.underlying25 (by kernel_rfl)
    (fun m _ => kfields_cons (o' := 1) (by kernel_rfl) rfl (kopens_slice Try.underlying22 (by kernel_rfl) (by decide) (fun _ _ => trivial) (fun m _ => kopens_lobj m)) (kfields_cons (o' := 2) (by kernel_rfl) rfl (kopens_int Try.underlying3) (kfields_cons (o' := 3) (by kernel_rfl) rfl (kopens_int Try.underlying3) (kfields_one (by kernel_rfl) (kopens_slice Try.underlying23 (by kernel_rfl) (by decide) (fun _ _ => trivial) (fun m _ => kopens_lchg m))))))
set_option maxRecDepth 20000 in
theorem kopen_base (hv : Value.okWide Try.prog w r b0 25 v) (h : DataW.Trod enc Try.prog w base spare held 25 v d p) :
    ∃ (s : LBase) (A0 : Option Addr) (c0 : Nat) (A3 : Option Addr) (c3 : Nat), v = .agg #[.slice A0 s.f0.length c0, .int .i64 s.f1, .int .i64 s.f2, .slice A3 s.f3.length c3] ∧ wfBase s ∧
      s.f0.length ≤ c0 ∧ Kd.C k121 w A0 s.f0.length s.f0 ∧ s.f3.length ≤ c3 ∧ Kd.C k124 w A3 s.f3.length s.f3 := by
  obtain ⟨cs, rfl, _⟩ := Go.WideShapes.okWide_struct Try.underlying25 hv
  obtain ⟨fuel, h⟩ := h
  obtain ⟨s, hw, hK⟩ := kopens_base fuel _ _ h
  obtain ⟨A0, c0, A3, c3, he, l0, g0, l3, g3⟩ := kLB_open hK
  have he' : cs.toList = [.slice A0 s.f0.length c0, .int .i64 s.f1, .int .i64 s.f2, .slice A3 s.f3.length c3] := he
  exact ⟨s, A0, c0, A3, c3, by congr 1; apply Array.toList_inj.1; rw [he'], hw, l0, g0, l3, g3⟩
end
end Go.Proofs.Ytmoiacijklkfaaa.G

/- GKMini -/
/-
  Short words for what printed texts say again and again: facts carried into a world that has only grown by boxes and orders.
-/
namespace Go.Proofs.Ytmoiacijklkfaaa.G
open Go.RowKit Go.Proofs.YtmoiacijklkfaaaW.PrintWords Go.Proofs.YtmoiacijklkfaaaW.PrintLast Go.Proofs.YtmoiacijklkfaaaW.PrintMore
set_option linter.unusedVariables false
/-- The second world is the first one, and boxes and orders since. -/
class Gr (W W' : World) : Prop where
  out : Below W.heap.size W W'
instance Gr.refl (W : World) : Gr W W := ⟨Below.refl _ _⟩
instance Gr.alloc (W W' : World) (o : Obj) [g : Gr W W'] : Gr W (W'.alloc o) := ⟨below_then g.out g.out.size (below_alloc (Below.refl _ _) o)⟩
instance Gr.drewN (W W' : World) (n : Nat) [g : Gr W W'] : Gr W (W'.drewN n) := ⟨pw_below_drewN g.out n⟩
instance Gr.drew (W W' : World) [g : Gr W W'] : Gr W W'.drew := ⟨below_drew g.out⟩
section
variable {w W W' : World} {α : Type} {d : Kd α} {A : Option Addr} {n g gb e base : Nat} {xs : List α} {o : Obj} {v : Value} {ok : Nat → Prop}
theorem qB (h : Aside0 (Below w.heap.size w W)) [q : Gr W W'] : Below w.heap.size w W' := below_then h.out h.out.size q.out
theorem qK (h : Aside0 (W.heap[g]? = some o)) [q : Gr W W'] : W'.heap[g]? = some o := (q.out.block g (blk_lt h.out)).trans h.out
theorem qG (h : Aside0 (Below w.heap.size w W)) [q : Gr W W'] (hg : gb = W'.heap.size) : w.heap.size ≤ gb := hg ▸ (qB (W' := W') h).size
theorem qN (h : Aside0 (W.heap[g]? = some o)) [q : Gr W W'] (hg : gb = W'.heap.size) : g ≠ gb := hg ▸ Nat.ne_of_lt (blk_lt (qK (W' := W') h))
theorem qC (h : Aside0 (Kd.C d w A n xs)) (hb : Aside0 (Below w.heap.size w W)) [q : Gr W W'] : Kd.C d W' A n xs := Kd.C_below h.out (qB hb)
end
section
variable {W : World} {g t : Nat} {a0 a1 a2 a3 a4 a5 a6 : Value}
theorem qk5 (h : Aside0 (W.heap[g]? = some (.cells #[a0, a1, a2, a3, a4] t (0, 0)))) : W.cell? ⟨g, 0, none⟩ = some a0 ∧ W.cell? ⟨g, 1, none⟩ = some a1 ∧ W.cell? ⟨g, 2, none⟩ = some a2 ∧ W.cell? ⟨g, 3, none⟩ = some a3 ∧ W.cell? ⟨g, 4, none⟩ = some a4 ∧ W.frozen? ⟨g, 0, none⟩ = false ∧ W.frozen? ⟨g, 1, none⟩ = false ∧ W.frozen? ⟨g, 2, none⟩ = false ∧ W.frozen? ⟨g, 3, none⟩ = false ∧ W.frozen? ⟨g, 4, none⟩ = false := ⟨blk_cell h.out 0, blk_cell h.out 1, blk_cell h.out 2, blk_cell h.out 3, blk_cell h.out 4, blk_frozen h.out 0, blk_frozen h.out 1, blk_frozen h.out 2, blk_frozen h.out 3, blk_frozen h.out 4⟩
end
end Go.Proofs.Ytmoiacijklkfaaa.G
