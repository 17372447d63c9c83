import Derived.Test.YtpjpnppoejnafaaMFnExactNever0
import Derived.Lib.Hide
import Derived.Lib.SliceRun
import Derived.WalkKit
import Derived.IntWalk
import Derived.Deep.LoopGhost
import Derived.WalkLawsBesides
import Derived.Test.YtpjpnppoejnafaaProg
import Derived.Below
import Derived.Deep.Draws
import Derived.Deep.AppendLies
import Derived.Maps.AppendAt
import Derived.OwnWalk
import Derived.Laws.BytesArg
import Derived.Laws.MakeOwn
import Derived.Laws.OwnMore
import Derived.Deep.OwnRows
import Derived.Tactics
import Derived.Lib.ConvBytes
import Derived.Laws.Slices
import Derived.KernelRfl
import Derived.RowKit3
import Derived.Deep.QuietTactic
import Derived.BigQuiet
import Derived.WideLaws
import Derived.Deep.DeepCutAuto
import Derived.Deep.CutBlock
import Derived.Deep.RegionHeld3
import Derived.Laws.Rows
import Derived.Lib.AppendStr
import Derived.ArgAppend
import Derived.Laws.IdiomCopy
import Derived.OrdersHeld
import Derived.Laws.BitsLemmas
import Derived.RowKit
/- GKit -/
/-
  Small words beside the print's: lists searched by a test that may lack an answer, rows that stand below a growing world.
-/
namespace Go.Proofs.Ytpjpnppoejnafaa.G
open Go.RowKit Go.Proofs.YtpjpnppoejnafaaW.PrintWords Go.Proofs.YtpjpnppoejnafaaW.PrintLast Go.Proofs.YtpjpnppoejnafaaW.PrintMore
set_option linter.unusedVariables false

/-- The place of the first for which p says yes, counted from k on; -1 without one. -/
def idxO {α : Type} (p : α → Option Bool) : List α → Nat → Option Int
  | [], _ => some (-1)
  | x :: xs, k => (p x).bind fun b => if b then some (k : Int) else idxO p xs (k + 1)
theorem idxO_step {α : Type} {p : α → Option Bool} {xs : List α} {k : Nat} {r : Int} (hk : k < xs.length) (h : idxO p (xs.drop k) k = some r) :
    ∃ b, p xs[k] = some b ∧ (b = true → r = k) ∧ (b = false → idxO p (xs.drop (k + 1)) (k + 1) = some r) := by
  rw [List.drop_eq_getElem_cons hk, idxO] at h
  cases hp : p xs[k] with
  | none => rw [hp] at h; cases h
  | some b =>
    rw [hp] at h
    refine ⟨b, rfl, ?_, ?_⟩
    · rintro rfl; simpa using h.symm
    · rintro rfl; simpa using h
theorem idxO_end {α : Type} {p : α → Option Bool} {xs : List α} {r : Int} (h : idxO p (xs.drop xs.length) xs.length = some r) : r = -1 := by
  rw [List.drop_length, idxO] at h
  exact (Option.some.inj h).symm
theorem getD_at {α : Type} {xs : List α} {k : Nat} (hk : k < xs.length) (z : α) : xs.getD k z = xs[k] := by
  rw [List.getD_eq_getElem?_getD, List.getElem?_eq_getElem hk]; rfl
theorem below_trans {w w1 w2 : World} (h : Below w.heap.size w w1) (k : Below w1.heap.size w1 w2) : Below w.heap.size w w2 := below_then h h.size k
theorem hid_below {w w1 w2 : World} (h : Hid (Below w.heap.size w w1)) (k : Below w1.heap.size w1 w2) : Hid (Below w.heap.size w w2) := below_trans h.out k
section
variable {α : Type} {d : Kd α} {e base n c : Nat} {ok : Nat → Prop} {w : World} {A : Option Addr} {xs : List α}
/-- A row of the call's own with an element lies at the head of a block that is known whole. -/
theorem R_block (h : d.R e w base ok (.slice A n c) xs) (hp : 0 < xs.length) :
    ∃ g cur, A = some ⟨g, 0, none⟩ ∧ n = xs.length ∧ base ≤ g ∧ w.heap[g]? = some (.cells cur e (0, 0)) ∧ xs.length ≤ c ∧ c ≤ maxLen ∧ cur.size = c * d.sz ∧ ok g ∧
      Reps (d.M w base (fun k => ok k ∧ k ≠ g)) d.sz xs (cur.toList.take (xs.length * d.sz)) := by
  obtain ⟨h0, inner, ⟨hl, hv⟩, hr⟩ := h
  rcases hv with ⟨_, h1⟩ | ⟨g, cap, cur, hv, hb, hh, h1, h2, h3, h4⟩
  · omega
  · simp only [Value.slice.injEq] at hv
    obtain ⟨rfl, rfl, rfl⟩ := hv
    refine ⟨g, cur, rfl, rfl, hb, hh, h1, h2, h3, h0 g rfl, ?_⟩
    rw [h4]
    exact hr.imp_ (fun _ _ hp => d.M_mono (fun k hk => ⟨hk.1, fun e => hk.2 (by rw [e]; rfl)⟩) hp)
theorem R_of_block {g : Nat} {cur : Array Value} (hb : base ≤ g) (hh : w.heap[g]? = some (.cells cur e (0, 0))) (h1 : xs.length ≤ c) (h2 : c ≤ maxLen) (h3 : cur.size = c * d.sz) (hok : ok g)
    (hr : Reps (d.M w base (fun k => ok k ∧ k ≠ g)) d.sz xs (cur.toList.take (xs.length * d.sz))) : d.R e w base ok (.slice (some ⟨g, 0, none⟩) xs.length c) xs := by
  refine ⟨fun k hk => ?_, _, ⟨hr.1, .inr ⟨g, c, cur, rfl, hb, hh, h1, h2, h3, rfl⟩⟩, hr.imp_ (fun _ _ hp => d.M_mono (fun k hk => ⟨hk.1, fun e => hk.2 ?_⟩) hp)⟩
  · have : g = k := by simpa [Value.ownBlock] using hk
    exact this ▸ hok
  · have : k = g := by simpa [Value.ownBlock] using e
    exact this
end

/-! ### slices.DeleteFunc: what it leaves, and the state of its loop -/
def delO {α : Type} (p : α → Option Bool) : List α → Option (List α)
  | [] => some []
  | x :: xs => (p x).bind fun b => (delO p xs).bind fun ys => some (if b then ys else x :: ys)
theorem delO_cons {α : Type} {p : α → Option Bool} {x : α} {xs r : List α} (h : delO p (x :: xs) = some r) : ∃ b ys, p x = some b ∧ delO p xs = some ys ∧ r = if b then ys else x :: ys := by
  rw [delO] at h
  cases hp : p x with
  | none => rw [hp] at h; cases h
  | some b =>
    rw [hp, Option.bind_some] at h
    cases hy : delO p xs with
    | none => rw [hy] at h; cases h
    | some ys => rw [hy, Option.bind_some] at h; exact ⟨b, ys, rfl, rfl, (Option.some.inj h).symm⟩
theorem delO_idx {α : Type} {p : α → Option Bool} : ∀ (l : List α) (k : Nat) (r : List α), delO p l = some r →
    ∃ i, idxO p l k = some i ∧ ((i = -1 ∧ r = l) ∨ ∃ m : Nat, i = ((k + m : Nat) : Int) ∧ m < l.length ∧ ∃ r2, delO p (l.drop (m + 1)) = some r2 ∧ r = l.take m ++ r2)
  | [], k, r, h => ⟨-1, rfl, .inl ⟨rfl, by rw [delO] at h; exact (Option.some.inj h).symm⟩⟩
  | x :: xs, k, r, h => by
    obtain ⟨b, ys, hp, hy, rfl⟩ := delO_cons h
    cases b with
    | true => exact ⟨k, by rw [idxO, hp]; rfl, .inr ⟨0, by simp, by simp, ys, by simpa using hy, by simp⟩⟩
    | false =>
      obtain ⟨i, hi, hc⟩ := delO_idx xs (k + 1) ys hy
      refine ⟨i, by rw [idxO, hp]; exact hi, ?_⟩
      rcases hc with ⟨rfl, rfl⟩ | ⟨m, rfl, hm, r2, hr, rfl⟩
      · exact .inl ⟨rfl, rfl⟩
      · exact .inr ⟨m + 1, by rw [Nat.add_assoc, Nat.add_comm 1 m], by simpa using hm, r2, by simpa using hr, by simp⟩

structure DelSt {α : Type} (d : Kd α) (e : Nat) (p : α → Option Bool) (l0 r : List α) (ok : Nat → Prop) (w0 w : World) (g : Nat) (cur : Array Value) (m j : Nat) (wr : World) : Prop where
  st : ∃ (cur' : Array Value) (ys r2 : List α), ys.length = m ∧ wr.heap[g]? = some (.cells cur' e (0, 0)) ∧ cur'.size = cur.size ∧ cur'.toList.drop (j * d.sz) = cur.toList.drop (j * d.sz) ∧
    Reps (d.M wr w0.heap.size (fun k => ok k ∧ k ≠ g)) d.sz ys (cur'.toList.take (m * d.sz)) ∧ delO p (l0.drop j) = some r2 ∧ r = ys ++ r2
  kept : Kept w wr (fun k => k = g)
  below : Below w0.heap.size w0 wr
  pos : m < j
section
variable {α : Type} {d : Kd α} {e c : Nat} {p : α → Option Bool} {l0 r : List α} {ok : Nat → Prop} {w0 w wr W : World} {g m j : Nat} {cur : Array Value}
theorem reps_take {R : α → List Value → Prop} {size : Nat} {ps : List α} {cs : List Value} (h : Reps R size ps cs) (k : Nat) (hk : k ≤ ps.length) : Reps R size (ps.take k) (cs.take (k * size)) := by
  have hle : k * size ≤ ps.length * size := Nat.mul_le_mul_right _ hk
  refine ⟨by rw [List.length_take, List.length_take, h.1, Nat.min_eq_left hk, Nat.min_eq_left hle], fun j q hq => ?_⟩
  have hj : j < k := by
    have := (List.getElem?_eq_some_iff.1 hq).1
    rw [List.length_take] at this
    omega
  rw [List.getElem?_take, if_pos hj] at hq
  have h1 : j * size + size ≤ k * size := by rw [← Nat.succ_mul]; exact Nat.mul_le_mul_right _ hj
  have := h.2 j q hq
  rw [List.drop_take, List.take_take, Nat.min_eq_left (by omega)]
  exact this
theorem del_start (hg : w0.heap.size ≤ g) (hh : w.heap[g]? = some (.cells cur e (0, 0))) (hr : Reps (d.M w w0.heap.size (fun k => ok k ∧ k ≠ g)) d.sz l0 (cur.toList.take (l0.length * d.sz)))
    (hB : Below w0.heap.size w0 w) (hb : Below w.heap.size w wr) {r2 : List α} (hm : m < l0.length) (h2 : delO p (l0.drop (m + 1)) = some r2) (hrr : r = l0.take m ++ r2) : DelSt d e p l0 r ok w0 w g cur m (m + 1) wr := by
  refine ⟨⟨cur, l0.take m, r2, by rw [List.length_take]; omega, (hb.block g (blk_lt hh)).trans hh, rfl, rfl, ?_, h2, hrr⟩, Kept.of_below hb _, below_then hB hB.size hb, by omega⟩
  have h3 := reps_take hr m (by omega)
  rw [List.take_take, Nat.min_eq_left (Nat.mul_le_mul_right _ (by omega))] at h3
  exact h3.imp_ (fun _ _ hp => Kd.M_below hp hb)
/-- Element j, not yet read: its cells. -/
theorem del_read (hh : w.heap[g]? = some (.cells cur e (0, 0))) (hs : cur.size = c * d.sz) (hl : l0.length ≤ c) (hr : Reps (d.M w w0.heap.size (fun k => ok k ∧ k ≠ g)) d.sz l0 (cur.toList.take (l0.length * d.sz)))
    (h : DelSt d e p l0 r ok w0 w g cur m j wr) (hj : j < l0.length) :
    ∃ (cs : List Value) (b : Bool), cs.length = d.sz ∧ p l0[j] = some b ∧ d.M wr w0.heap.size (fun k => ok k ∧ k ≠ g) l0[j] cs ∧ (∀ t u, cs[t]? = some u → wr.cell? ⟨g, j * d.sz + t, none⟩ = some u) ∧ (∀ t, wr.frozen? ⟨g, t, none⟩ = false) ∧ (∀ t, t < c * d.sz → ∃ u, wr.cell? ⟨g, t, none⟩ = some u) := by
  obtain ⟨cur', ys, r2, hy, hh', hs', hd, hR, hdel, hrr⟩ := h.st
  have hjl : j * d.sz + d.sz ≤ l0.length * d.sz := by rw [← Nat.succ_mul]; exact Nat.mul_le_mul_right _ hj
  have hcl : l0.length * d.sz ≤ c * d.sz := Nat.mul_le_mul_right _ hl
  rw [List.drop_eq_getElem_cons hj] at hdel
  obtain ⟨b, ys', hp, _, _⟩ := delO_cons hdel
  have hM := hr.2 j _ (List.getElem?_eq_getElem hj)
  rw [List.drop_take, List.take_take, Nat.min_eq_left (by omega)] at hM
  refine ⟨(cur.toList.drop (j * d.sz)).take d.sz, b, ?_, hp, ?_, ?_, ?_, ?_⟩
  · rw [List.length_take, List.length_drop, Array.length_toList]; omega
  · exact Kd.M_kept hM h.kept (fun k hk => hk.2)
  · intro t u ht
    have htl := (List.getElem?_eq_some_iff.1 ht).1
    rw [List.length_take] at htl
    rw [← hd, List.getElem?_take, if_pos (by omega), List.getElem?_drop, Array.getElem?_toList] at ht
    rw [blk_cell hh', ht]
  · intro t; exact blk_frozen hh' t
  · intro t ht
    exact ⟨cur'[t]'(by omega), by rw [blk_cell hh']; exact Array.getElem?_eq_getElem (by omega)⟩
theorem del_skip (h : DelSt d e p l0 r ok w0 w g cur m j wr) (hj : j < l0.length) (hp : p l0[j] = some true) (hb : Below wr.heap.size wr W) : DelSt d e p l0 r ok w0 w g cur m (j + 1) W := by
  obtain ⟨cur', ys, r2, hy, hh', hs', hd, hR, hdel, hrr⟩ := h.st
  rw [List.drop_eq_getElem_cons hj] at hdel
  obtain ⟨b, ys', hp', hdel', he⟩ := delO_cons hdel
  rw [hp] at hp'
  cases hp'
  refine ⟨⟨cur', ys, r2, hy, (hb.block g (blk_lt hh')).trans hh', hs', ?_, hR.imp_ (fun _ _ hq => Kd.M_below hq hb), ?_, hrr⟩, h.kept.below hb, below_then h.below h.below.size hb, by have := h.pos; omega⟩
  · have := congrArg (List.drop d.sz) hd
    rw [List.drop_drop, List.drop_drop] at this
    rw [Nat.succ_mul]; exact this
  · rw [hdel', he]; rfl
theorem del_keep (hg : w0.heap.size ≤ g) (hs : cur.size = c * d.sz) (hl : l0.length ≤ c) (h : DelSt d e p l0 r ok w0 w g cur m j wr) (hj : j < l0.length) (hp : p l0[j] = some false) (hb : Below wr.heap.size wr W)
    {cs : List Value} (hcs : cs.length = d.sz) (hM : d.M wr w0.heap.size (fun k => ok k ∧ k ≠ g) l0[j] cs) : DelSt d e p l0 r ok w0 w g cur (m + 1) (j + 1) (W.setCells g (m * d.sz) cs) := by
  obtain ⟨cur', ys, r2, hy, hh', hs', hd, hR, hdel, hrr⟩ := h.st
  have hmj := h.pos
  rw [List.drop_eq_getElem_cons hj] at hdel
  obtain ⟨b, ys', hp', hdel', he⟩ := delO_cons hdel
  rw [hp] at hp'
  cases hp'
  have hjl : j * d.sz + d.sz ≤ l0.length * d.sz := by rw [← Nat.succ_mul]; exact Nat.mul_le_mul_right _ hj
  have hcl : l0.length * d.sz ≤ c * d.sz := Nat.mul_le_mul_right _ hl
  have hml : m * d.sz + d.sz ≤ j * d.sz := by rw [← Nat.succ_mul]; exact Nat.mul_le_mul_right _ hmj
  have hbk := (hb.block g (blk_lt hh')).trans hh'
  obtain ⟨cur2, h2, h2s, h2l⟩ := setCells_row cs (m * d.sz) W cur' hbk (by omega)
  have far : ∀ k, k ≠ g → k < wr.heap.size → (W.setCells g (m * d.sz) cs).heap[k]? = wr.heap[k]? := fun k hk hlt => (setCells_far cs _ k hk).trans (hb.block k hlt)
  obtain ⟨s1, s2, s3, s4⟩ := setCells_same g cs (m * d.sz) W
  have hlen : cur'.toList.length = cur'.size := Array.length_toList
  have hmc : m * d.sz ≤ cur'.size := by omega
  have hsj : (j + 1) * d.sz = j * d.sz + d.sz := Nat.succ_mul j d.sz
  have mv : ∀ q cq, d.M wr w0.heap.size (fun k => ok k ∧ k ≠ g) q cq → d.M (W.setCells g (m * d.sz) cs) w0.heap.size (fun k => ok k ∧ k ≠ g) q cq := fun q cq hq => Kd.M_step hq (fun k hk hlt => far k hk.2 hlt)
  refine ⟨⟨cur2, ys ++ [l0[j]], ys', by simp [hy], h2, h2s.trans hs', ?_, ?_, hdel', by rw [hrr, he]; simp⟩, ?_, ?_, by omega⟩
  · rw [h2l, List.drop_append, List.drop_of_length_le (by rw [List.length_append, List.length_take, hcs, hlen, Nat.min_eq_left hmc]; omega), List.nil_append, List.length_append, List.length_take, hcs, List.drop_drop]
    have := congrArg (List.drop d.sz) hd
    rw [List.drop_drop, List.drop_drop] at this
    rw [Nat.succ_mul, ← this]
    congr 1
    rw [hlen]; omega
  · rw [h2l, List.append_assoc, Nat.succ_mul, List.take_append, List.take_of_length_le (by rw [List.length_take]; omega), List.length_take, hlen, Nat.min_eq_left (by omega), Nat.add_sub_cancel_left, List.take_append_of_le_length (by omega), List.take_of_length_le (l := cs) (by omega)]
    exact (hR.imp_ mv).snoc (mv _ _ hM) hcs
  · refine (h.kept.below hb).then_ (S2 := fun k => k = g) ⟨by omega, fun i _ hn => setCells_far cs _ i hn⟩ (fun k hk => .inl hk)
  · have hB := below_then h.below h.below.size hb
    exact ⟨by rw [s1]; exact hB.os, by rw [s2]; exact hB.tape, by rw [s3]; exact hB.output, by rw [s4]; exact hB.size, fun k hk => by rw [setCells_far cs _ k (by omega)]; exact hB.block k hk⟩
theorem del_end (hg : w0.heap.size ≤ g) (hs : cur.size = c * d.sz) (hc : c ≤ maxLen) (hl : l0.length ≤ c) (hok : ok g) (h : DelSt d e p l0 r ok w0 w g cur m l0.length wr) {zs : List Value} (hz : m * d.sz + zs.length ≤ c * d.sz) :
    d.R e (wr.setCells g (m * d.sz) zs) w0.heap.size ok (.slice (some ⟨g, 0, none⟩) m c) r ∧ Below w0.heap.size w0 (wr.setCells g (m * d.sz) zs) ∧ Kept w (wr.setCells g (m * d.sz) zs) (fun k => k = g) := by
  obtain ⟨cur', ys, r2, hy, hh', hs', hd, hR, hdel, hrr⟩ := h.st
  have hml := h.pos
  rw [List.drop_length, delO] at hdel
  cases hdel
  rw [List.append_nil] at hrr
  subst hrr
  obtain ⟨cur2, h2, h2s, h2l⟩ := setCells_row zs (m * d.sz) wr cur' hh' (by omega)
  obtain ⟨s1, s2, s3, s4⟩ := setCells_same g zs (m * d.sz) wr
  have hlen : cur'.toList.length = cur'.size := Array.length_toList
  refine ⟨?_, ?_, ?_⟩
  · subst hy
    refine R_of_block hg h2 (by omega) hc (by omega) hok ?_
    rw [h2l, List.append_assoc, List.take_append_of_le_length (by rw [List.length_take]; omega), List.take_take, Nat.min_self]
    exact hR.imp_ (fun q cq hq => Kd.M_step hq (fun k hk _ => setCells_far zs _ k hk.2))
  · have hB := h.below
    exact ⟨by rw [s1]; exact hB.os, by rw [s2]; exact hB.tape, by rw [s3]; exact hB.output, by rw [s4]; exact hB.size, fun k hk => by rw [setCells_far zs _ k (by omega)]; exact hB.block k hk⟩
  · exact h.kept.then_ (S2 := fun k => k = g) ⟨by omega, fun i _ hn => setCells_far zs _ i hn⟩ (fun k hk => .inl hk)
end
/-- 'clear(s)', s a slice of n > 0 elements of whatever cells. -/
theorem run_clear_cells {P : Program} (w : World) (t e ty : TypeId) (z : Value) (ht : P.underlying t = some (.slice e)) (hv : ∀ w, (zeroValue e).run P w = .ok z w) (h1 : ∀ u ∈ z.cells, u.oneCell' = true) (b o n c : Nat) (hn : 0 < n)
    (hc : ∀ j, j < n * z.cells.size → (w.cell? ⟨b, o + j, none⟩).isSome = true) (hf : ∀ j, w.frozen? ⟨b, j, none⟩ = false) :
    (Builtin.clear_ #[t] ty #[.slice (some ⟨b, o, none⟩) n c]).run P w = .ok (.tuple #[]) (w.setCells b o (Builtin.zeroCells z.cells n).toList) := by
  have hl : (Builtin.zeroCells z.cells n).toList.length = n * z.cells.size := by simp [Builtin.zeroCells]
  have hst := run_storeCells_cells (P := P) b o (Builtin.zeroCells z.cells n).toList 0 w (by rw [hl]; intro j hj; simpa using hc j hj) (by intro j _; simpa using hf (o + j)) (by
    intro v hv'
    simp only [Builtin.zeroCells, Array.toList_map, Array.toList_range, List.mem_map, List.mem_range] at hv'
    obtain ⟨i, hi, rfl⟩ := hv'
    have hpos : 0 < z.cells.size := by
      rcases Nat.eq_zero_or_pos z.cells.size with h | h
      · rw [h] at hi; omega
      · exact h
    rw [getElem!_pos z.cells (i % z.cells.size) (Nat.mod_lt _ hpos)]
    exact h1 _ (Array.getElem_mem _))
  simp only [Nat.add_zero] at hst
  obtain ⟨m, rfl⟩ : ∃ m, n = m + 1 := ⟨n - 1, by omega⟩
  simp [Builtin.clear_, run_underlying ht, hv, hst]
theorem bind_some' {α β : Type} {o : Option α} {f : α → Option β} {r : β} (h : o.bind f = some r) : ∃ a, o = some a ∧ f a = some r := Option.bind_eq_some_iff.1 h
end Go.Proofs.Ytpjpnppoejnafaa.G

/- G0 -/
-- Laid by wip/g/gprint.py out of the translation, by the kit's print program. Lean checks it.
namespace Go.Proofs.Ytpjpnppoejnafaa.G
open Go.RowKit Go.Proofs.YtpjpnppoejnafaaW.PrintWords Go.Proofs.YtpjpnppoejnafaaW.PrintLast Go.Proofs.YtpjpnppoejnafaaW.PrintMore
attribute [local go_sem] max2_int min2_int max_two min_two max_three min_three max_four min_four   -- for this text's walks alone
set_option linter.unusedVariables false
set_option linter.unusedSimpArgs false

def errW : Option Int → Value
  | none => .nilIface
  | some c => .iface 0 (.int .i64 c)
theorem errW_none : errW none = .nilIface := rfl
theorem errW_some (c : Int) : errW (some c) = .iface 0 (.int .i64 c) := rfl

theorem info9 : (Try.prog.info? 9).map (fun i => (i.zero, i.size, i.bytes)) = some (some (.string ⟨#[]⟩), 1, 16) := by kernel_rfl
theorem info52 : (Try.prog.info? 52).map (fun i => (i.zero, i.size, i.bytes)) = some (some (.agg #[(.int .i64 0), (.string ⟨#[]⟩), (.slice none 0 0)]), 3, 48) := by kernel_rfl
-- the values' own types
/-! #### struct type 55 -/
structure S55 where
  f0 : ByteArray
  f1 : ByteArray
/-! #### struct type 56 -/
structure S56 where
  f0 : ByteArray
  f1 : ByteArray
def z56 : S56 := ⟨(⟨#[]⟩ : ByteArray), (⟨#[]⟩ : ByteArray)⟩
def k56 : Kd S56 := Kd.iso (Kd.pair Kd.string Kd.string) (fun x : S56 => (x.f0, x.f1))
theorem k56_open {w : World} {x : S56} {cs : List Value} (h : k56.K w x cs) : cs = [.string x.f0, .string x.f1] := by
  obtain ⟨_, _, rfl, rfl, rfl⟩ := h
  exact rfl
theorem k56_mkM (w : World) (base : Nat) (ok : Nat → Prop) (x : S56)  : k56.M w base ok x [.string x.f0, .string x.f1] := ⟨[.string x.f0], [.string x.f1], rfl, rfl, rfl⟩
def rd_T56 (xs : List S56) (i : Int) : S56 := xs.getD i.toNat z56
theorem at_T56 {w : World} {A : Option Addr} {n : Nat} {xs : List S56} (h : Kd.C k56 w A n xs) (i : Int) (h0 : 0 ≤ i) (h1 : i < n) : ∃ ad , A = some ad ∧ w.cell? (ad.add (i.toNat * 2)) = some (.string (rd_T56 xs i).f0) ∧ w.cell? ⟨(ad.add (i.toNat * 2)).block, (ad.add (i.toNat * 2)).off + 1, none⟩ = some (.string (rd_T56 xs i).f1) := by
  obtain ⟨ad, c, e, _, hK, hc0⟩ := Kd.C_get h z56 i h0 h1
  have hc : ∀ j u, c[j]? = some u → w.cell? (ad.add (i.toNat * 2 + j)) = some u := hc0
  obtain rfl := k56_open hK
  exact ⟨ad, e, hc 0 _ rfl, by rw [← add_field _ _ 1 (by omega)]; exact hc 1 _ rfl⟩

/-! #### struct type 73 -/
structure S73 where
  f0 : Int
  f1 : ByteArray
  f2 : (List ByteArray)
def z73 : S73 := ⟨(0 : Int), (⟨#[]⟩ : ByteArray), ([] : List ByteArray)⟩
def k73 : Kd S73 := Kd.iso (Kd.pair (Kd.int .i64) (Kd.pair Kd.string (Kd.slice 9 Kd.string))) (fun x : S73 => (x.f0, x.f1, x.f2))
theorem k73_open {w : World} {x : S73} {cs : List Value} (h : k73.K w x cs) : ∃ A2 c2, cs = [.int .i64 x.f0, .string x.f1, .slice A2 x.f2.length c2] ∧ x.f2.length ≤ c2 ∧ Kd.string.C w A2 x.f2.length x.f2 := by
  obtain ⟨_, _, rfl, rfl, ⟨_, _, rfl, rfl, ⟨A2, c2, rfl, l2, g2⟩⟩⟩ := h
  exact ⟨A2, c2, rfl, l2, g2⟩
def rd_T73 (xs : List S73) (i : Int) : S73 := xs.getD i.toNat z73
theorem at_T73 {w : World} {A : Option Addr} {n : Nat} {xs : List S73} (h : Kd.C k73 w A n xs) (i : Int) (h0 : 0 ≤ i) (h1 : i < n) : ∃ ad A2 c2, A = some ad ∧ w.cell? (ad.add (i.toNat * 3)) = some (.int .i64 (rd_T73 xs i).f0) ∧ w.cell? ⟨(ad.add (i.toNat * 3)).block, (ad.add (i.toNat * 3)).off + 1, none⟩ = some (.string (rd_T73 xs i).f1) ∧ w.cell? ⟨(ad.add (i.toNat * 3)).block, (ad.add (i.toNat * 3)).off + 2, none⟩ = some (.slice A2 (rd_T73 xs i).f2.length c2) ∧ (rd_T73 xs i).f2.length ≤ c2 ∧ Kd.string.C w A2 (rd_T73 xs i).f2.length (rd_T73 xs i).f2 := by
  obtain ⟨ad, c, e, _, hK, hc0⟩ := Kd.C_get h z73 i h0 h1
  have hc : ∀ j u, c[j]? = some u → w.cell? (ad.add (i.toNat * 3 + j)) = some u := hc0
  obtain ⟨A2, c2, rfl, l2, g2⟩ := k73_open hK
  exact ⟨ad, A2, c2, e, hc 0 _ rfl, by rw [← add_field _ _ 1 (by omega)]; exact hc 1 _ rfl, by rw [← add_field _ _ 2 (by omega)]; exact hc 2 _ rfl, l2, g2⟩

/-! #### struct type 52 -/
structure S52 where
  f0 : Int
  f1 : ByteArray
  f2 : (List ByteArray)
def z52 : S52 := ⟨(0 : Int), (⟨#[]⟩ : ByteArray), ([] : List ByteArray)⟩
def k52 : Kd S52 := Kd.iso (Kd.pair (Kd.int .i64) (Kd.pair Kd.string (Kd.slice 9 Kd.string))) (fun x : S52 => (x.f0, x.f1, x.f2))
theorem k52_open {w : World} {x : S52} {cs : List Value} (h : k52.K w x cs) : ∃ A2 c2, cs = [.int .i64 x.f0, .string x.f1, .slice A2 x.f2.length c2] ∧ x.f2.length ≤ c2 ∧ Kd.string.C w A2 x.f2.length x.f2 := by
  obtain ⟨_, _, rfl, rfl, ⟨_, _, rfl, rfl, ⟨A2, c2, rfl, l2, g2⟩⟩⟩ := h
  exact ⟨A2, c2, rfl, l2, g2⟩
theorem k52_openM {w : World} {base : Nat} {ok : Nat → Prop} {x : S52} {cs : List Value} (h : k52.M w base ok x cs) : ∃ v2, cs = [.int .i64 x.f0, .string x.f1, v2] ∧ Kd.string.R 9 w base ok v2 x.f2 := by
  obtain ⟨_, _, rfl, rfl, ⟨_, _, rfl, rfl, ⟨v2, rfl, g2⟩⟩⟩ := h
  exact ⟨v2, rfl, g2⟩
theorem k52_mkM (w : World) (base : Nat) (ok : Nat → Prop) (x : S52) {v2 : Value} (g2 : Kd.string.R 9 w base ok v2 x.f2) : k52.M w base ok x [.int .i64 x.f0, .string x.f1, v2] := ⟨[.int .i64 x.f0], [.string x.f1, v2], rfl, rfl, ⟨[.string x.f1], [v2], rfl, rfl, ⟨v2, rfl, g2⟩⟩⟩
def rd_T52 (xs : List S52) (i : Int) : S52 := xs.getD i.toNat z52
theorem at_T52 {w : World} {A : Option Addr} {n : Nat} {xs : List S52} (h : Kd.C k52 w A n xs) (i : Int) (h0 : 0 ≤ i) (h1 : i < n) : ∃ ad A2 c2, A = some ad ∧ w.cell? (ad.add (i.toNat * 3)) = some (.int .i64 (rd_T52 xs i).f0) ∧ w.cell? ⟨(ad.add (i.toNat * 3)).block, (ad.add (i.toNat * 3)).off + 1, none⟩ = some (.string (rd_T52 xs i).f1) ∧ w.cell? ⟨(ad.add (i.toNat * 3)).block, (ad.add (i.toNat * 3)).off + 2, none⟩ = some (.slice A2 (rd_T52 xs i).f2.length c2) ∧ (rd_T52 xs i).f2.length ≤ c2 ∧ Kd.string.C w A2 (rd_T52 xs i).f2.length (rd_T52 xs i).f2 := by
  obtain ⟨ad, c, e, _, hK, hc0⟩ := Kd.C_get h z52 i h0 h1
  have hc : ∀ j u, c[j]? = some u → w.cell? (ad.add (i.toNat * 3 + j)) = some u := hc0
  obtain ⟨A2, c2, rfl, l2, g2⟩ := k52_open hK
  exact ⟨ad, A2, c2, e, hc 0 _ rfl, by rw [← add_field _ _ 1 (by omega)]; exact hc 1 _ rfl, by rw [← add_field _ _ 2 (by omega)]; exact hc 2 _ rfl, l2, g2⟩

end Go.Proofs.Ytpjpnppoejnafaa.G

/- PBase -/
/-
  Plain facts under the laws: wraps, sizes that are counted down, marks.
-/
namespace Go.Proofs.Ytpjpnppoejnafaa.G
open Go.RowKit Go.Proofs.YtpjpnppoejnafaaW.PrintWords Go.Proofs.YtpjpnppoejnafaaW.PrintLast Go.Proofs.YtpjpnppoejnafaaW.PrintMore
set_option linter.unusedVariables false
set_option linter.unusedSimpArgs false

theorem w64 {x : Int} (h : -9223372036854775808 ≤ x) (h' : x ≤ 9223372036854775807) : wrap64 x = x := by unfold wrap64; omega
theorem ev_if_pos {α : Type} {c : Prop} [Decidable c] {g f : Nat → Option α} {r : α} (h : c) (k : Ev g r) : Ev (fun n => if c then g n else f n) r := Ev.congr (fun n => if_pos h) k
theorem ev_if_neg {α : Type} {c : Prop} [Decidable c] {g f : Nat → Option α} {r : α} (h : ¬ c) (k : Ev f r) : Ev (fun n => if c then g n else f n) r := Ev.congr (fun n => if_neg h) k
theorem ev_some {α : Type} {a r : α} (h : a = r) : Ev (fun _ => some a) r := h ▸ Ev.now r
theorem ev_rw {α : Type} {g : Nat → Option α} {a b : α} (h : Ev g a) (e : a = b) : Ev g b := e ▸ h
theorem ev_now {α : Type} {o : Option α} {r : α} (h : o = some r) : Ev (fun _ => o) r := by rw [h]; exact Ev.now r

theorem take_set_succ {α : Type} (ys : List α) (i : Nat) (h : i < ys.length) (a : α) : (ys.set i a).take (i + 1) = ys.take i ++ [a] := by
  rw [List.take_succ_eq_append_getElem (by simpa using h), List.take_set_of_le (Nat.le_refl i), List.getElem_set_self]
/-- A size is taken off what is left; -1 where it is more. -/
def szR (left : Int) (tot : Nat) : Int := if (tot : Int) ≤ left then left - tot else -1
theorem szR_nonneg {left : Int} {tot : Nat} (h : 0 ≤ szR left tot) : (tot : Int) ≤ left := by unfold szR at h; split at h <;> omega
theorem szR_add {left : Int} (h : 0 ≤ left) (a b : Nat) : szR left (a + b) = if szR left a < 0 then -1 else szR (szR left a) b := by
  unfold szR
  by_cases h1 : (a : Int) ≤ left
  · simp only [if_pos h1]
    rw [if_neg (by omega : ¬ left - (a : Int) < 0)]
    by_cases h2 : ((a + b : Nat) : Int) ≤ left
    · rw [if_pos h2, if_pos (by omega)]; omega
    · rw [if_neg h2, if_neg (by omega)]
  · simp only [if_neg h1]
    rw [if_neg (by omega : ¬ ((a + b : Nat) : Int) ≤ left), if_pos (by omega)]
theorem szR_le {left : Int} (h : 0 ≤ left) (a : Nat) : szR left a ≤ left ∧ -1 ≤ szR left a := by unfold szR; split <;> omega
theorem szR_neg {left : Int} {a : Nat} (h : left < a) : szR left a = -1 := by unfold szR; rw [if_neg (by omega)]
theorem szR_pos {left : Int} {a : Nat} (h : (a : Int) ≤ left) : szR left a = left - a := by unfold szR; rw [if_pos h]
theorem szR_zero {left : Int} (h : 0 ≤ left) : szR left 0 = left := by rw [szR_pos (by simpa using h)]; simp

theorem le_sum_map {α : Type} (f : α → Nat) : ∀ {xs : List α} {x : α}, x ∈ xs → f x ≤ (xs.map f).sum
  | y :: ys, x, h => by
    rw [List.map_cons, List.sum_cons]
    rcases List.mem_cons.1 h with rfl | h
    · omega
    · have := le_sum_map f h; omega
theorem ev_map {α β : Type} {g : Nat → Option α} {a : α} (f : α → β) (h : Ev g a) : Ev (fun k => (g k).map f) (f a) := by
  obtain ⟨K, hK⟩ := h
  exact ⟨K, fun n hn => by show Option.map f (g n) = _; rw [show g n = some a from hK n hn]; rfl⟩
/-! ### loops -/
theorem wsucc {i n : Nat} (h : i < n) (hn : n ≤ 9223372036854775807) : wrap64 ((i : Int) + 1) = ((i + 1 : Nat) : Int) := by rw [w64 (by omega) (by omega)]; rfl
theorem wpred {i n : Nat} (h0 : 0 < i) (h : i < n) (hn : n ≤ 9223372036854775807) : wrap64 ((i : Int) - 1) = ((i - 1 : Nat) : Int) := by rw [w64 (by omega) (by omega)]; omega
def allN (n : Nat) (ok : Nat → Bool) : Bool := (List.range n).all ok
theorem allN_true {n : Nat} {ok : Nat → Bool} : allN n ok = true ↔ ∀ i, i < n → ok i = true := by simp [allN]
/-- A loop that answers false at the first place that is not right, and fin behind the last. -/
theorem loop_all {g : Nat → Int → Option Bool} (n : Nat) (ok : Nat → Bool) (fin : Bool) (h1 : ∀ i, i < n → ok i = true → ∀ r, Ev (fun k => g k ((i + 1 : Nat) : Int)) r → Ev (fun k => g k (i : Int)) r)
    (h2 : ∀ i, i < n → ok i = false → Ev (fun k => g k (i : Int)) false) (h3 : Ev (fun k => g k (n : Int)) fin) : Ev (fun k => g k 0) (allN n ok && fin) := by
  have key : ∀ d i, i + d = n → (∀ j, j < i → ok j = true) → Ev (fun k => g k (i : Int)) (allN n ok && fin) := by
    intro d
    induction d with
    | zero =>
      intro i hi hok
      obtain rfl : i = n := by omega
      rw [allN_true.2 hok, Bool.true_and]
      exact h3
    | succ d ih =>
      intro i hi hok
      cases hc : ok i with
      | true => exact h1 i (by omega) hc _ (ih (i + 1) (by omega) (fun j hj => by rcases Nat.lt_succ_iff_lt_or_eq.1 hj with h | rfl; exact hok j h; exact hc))
      | false =>
        have : allN n ok = false := by
          rw [← Bool.not_eq_true, allN_true]
          intro h
          rw [h i (by omega)] at hc
          cases hc
        rw [this, Bool.false_and]
        exact h2 i (by omega) hc
  exact key n 0 (by omega) (by intro j hj; omega)
/-- The same, true at the first place that is found. -/
theorem loop_any {g : Nat → Int → Option Bool} (n : Nat) (ok : Nat → Bool) (h1 : ∀ i, i < n → ok i = false → ∀ r, Ev (fun k => g k ((i + 1 : Nat) : Int)) r → Ev (fun k => g k (i : Int)) r)
    (h2 : ∀ i, i < n → ok i = true → Ev (fun k => g k (i : Int)) true) (h3 : Ev (fun k => g k (n : Int)) false) : Ev (fun k => g k 0) (!allN n (fun i => !ok i)) := by
  have key : ∀ d i, i + d = n → (∀ j, j < i → ok j = false) → Ev (fun k => g k (i : Int)) (!allN n (fun i => !ok i)) := by
    intro d
    induction d with
    | zero =>
      intro i hi hok
      obtain rfl : i = n := by omega
      rw [allN_true.2 (fun j hj => by rw [hok j hj]; rfl)]
      exact h3
    | succ d ih =>
      intro i hi hok
      cases hc : ok i with
      | false => exact h1 i (by omega) hc _ (ih (i + 1) (by omega) (fun j hj => by rcases Nat.lt_succ_iff_lt_or_eq.1 hj with h | rfl; exact hok j h; exact hc))
      | true =>
        have : allN n (fun i => !ok i) = false := by
          rw [← Bool.not_eq_true, allN_true]
          intro h
          have := h i (by omega)
          rw [hc] at this
          cases this
        rw [this]
        exact h2 i (by omega) hc
  exact key n 0 (by omega) (by intro j hj; omega)
/-- A search: the first place that is found says what is answered. -/
theorem loop_find {α : Type} {g : Nat → Int → Option α} (n : Nat) (ok : Nat → Bool) (at_ : Nat → α) (fin : α) (h1 : ∀ i, i < n → ok i = false → ∀ r, Ev (fun k => g k ((i + 1 : Nat) : Int)) r → Ev (fun k => g k (i : Int)) r)
    (h2 : ∀ i, i < n → ok i = true → Ev (fun k => g k (i : Int)) (at_ i)) (h3 : Ev (fun k => g k (n : Int)) fin) : Ev (fun k => g k 0) (((List.range n).find? ok).elim fin at_) := by
  have key : ∀ d i, i + d = n → Ev (fun k => g k (i : Int)) (((List.range' i d).find? ok).elim fin at_) := by
    intro d
    induction d with
    | zero =>
      intro i hi
      obtain rfl : i = n := by omega
      exact h3
    | succ d ih =>
      intro i hi
      rw [List.range'_succ]
      cases hc : ok i with
      | true => rw [List.find?_cons_of_pos hc]; exact h2 i (by omega) hc
      | false => rw [List.find?_cons_of_neg (by simp [hc])]; exact h1 i (by omega) hc _ (ih (i + 1) (by omega))
  rw [List.range_eq_range']
  exact key n 0 (by omega)
end Go.Proofs.Ytpjpnppoejnafaa.G

/- G42 -/
-- Laid by wip/g/gprint.py out of the translation, by the kit's print program. Lean checks it.
namespace Go.Proofs.Ytpjpnppoejnafaa.G
open Go.RowKit Go.Proofs.YtpjpnppoejnafaaW.PrintWords Go.Proofs.YtpjpnppoejnafaaW.PrintLast Go.Proofs.YtpjpnppoejnafaaW.PrintMore
attribute [local go_sem] max2_int min2_int max_two min_two max_three min_three max_four min_four   -- for this text's walks alone
set_option linter.unusedVariables false
set_option linter.unusedSimpArgs false

/-! ### laws_markText: function 42 -/
end Go.Proofs.Ytpjpnppoejnafaa.G

/- PMark -/
/-
  Marks: a number's own text.
-/
namespace Go.Proofs.Ytpjpnppoejnafaa.G
open Go.RowKit Go.Proofs.YtpjpnppoejnafaaW.PrintWords Go.Proofs.YtpjpnppoejnafaaW.PrintLast Go.Proofs.YtpjpnppoejnafaaW.PrintMore
set_option linter.unusedVariables false
set_option linter.unusedSimpArgs false

/-! ### markText -/
end Go.Proofs.Ytpjpnppoejnafaa.G

/- G41 -/
-- Laid by wip/g/gprint.py out of the translation, by the kit's print program. Lean checks it.
namespace Go.Proofs.Ytpjpnppoejnafaa.G
open Go.RowKit Go.Proofs.YtpjpnppoejnafaaW.PrintWords Go.Proofs.YtpjpnppoejnafaaW.PrintLast Go.Proofs.YtpjpnppoejnafaaW.PrintMore
attribute [local go_sem] max2_int min2_int max_two min_two max_three min_three max_four min_four   -- for this text's walks alone
set_option linter.unusedVariables false
set_option linter.unusedSimpArgs false

/-! ### laws_eqLabel: function 41 -/
end Go.Proofs.Ytpjpnppoejnafaa.G

/- G15 -/
-- Laid by wip/g/gprint.py out of the translation, by the kit's print program. Lean checks it.
namespace Go.Proofs.Ytpjpnppoejnafaa.G
open Go.RowKit Go.Proofs.YtpjpnppoejnafaaW.PrintWords Go.Proofs.YtpjpnppoejnafaaW.PrintLast Go.Proofs.YtpjpnppoejnafaaW.PrintMore
attribute [local go_sem] max2_int min2_int max_two min_two max_three min_three max_four min_four   -- for this text's walks alone
set_option linter.unusedVariables false
set_option linter.unusedSimpArgs false

/-! ### laws_eqLabelS: function 15 -/
end Go.Proofs.Ytpjpnppoejnafaa.G

/- G16 -/
-- Laid by wip/g/gprint.py out of the translation, by the kit's print program. Lean checks it.
namespace Go.Proofs.Ytpjpnppoejnafaa.G
open Go.RowKit Go.Proofs.YtpjpnppoejnafaaW.PrintWords Go.Proofs.YtpjpnppoejnafaaW.PrintLast Go.Proofs.YtpjpnppoejnafaaW.PrintMore
attribute [local go_sem] max2_int min2_int max_two min_two max_three min_three max_four min_four   -- for this text's walks alone
set_option linter.unusedVariables false
set_option linter.unusedSimpArgs false

/-! ### laws_markLabelS: function 16 -/
end Go.Proofs.Ytpjpnppoejnafaa.G

/- G17 -/
-- Laid by wip/g/gprint.py out of the translation, by the kit's print program. Lean checks it.
namespace Go.Proofs.Ytpjpnppoejnafaa.G
open Go.RowKit Go.Proofs.YtpjpnppoejnafaaW.PrintWords Go.Proofs.YtpjpnppoejnafaaW.PrintLast Go.Proofs.YtpjpnppoejnafaaW.PrintMore
attribute [local go_sem] max2_int min2_int max_two min_two max_three min_three max_four min_four   -- for this text's walks alone
set_option linter.unusedVariables false
set_option linter.unusedSimpArgs false

/-! ### laws_heldLabelS: function 17 -/
end Go.Proofs.Ytpjpnppoejnafaa.G

/- PLab0 -/
/-
  Labels (the program's): read, compared, marked.
-/
namespace Go.Proofs.Ytpjpnppoejnafaa.G
open Go.RowKit Go.Proofs.YtpjpnppoejnafaaW.PrintWords Go.Proofs.YtpjpnppoejnafaaW.PrintLast Go.Proofs.YtpjpnppoejnafaaW.PrintMore
set_option linter.unusedVariables false
set_option linter.unusedSimpArgs false
abbrev ILab := S56
end Go.Proofs.Ytpjpnppoejnafaa.G

/- G78 -/
-- Laid by wip/g/gprint.py out of the translation, by the kit's print program. Lean checks it.
namespace Go.Proofs.Ytpjpnppoejnafaa.G
open Go.RowKit Go.Proofs.YtpjpnppoejnafaaW.PrintWords Go.Proofs.YtpjpnppoejnafaaW.PrintLast Go.Proofs.YtpjpnppoejnafaaW.PrintMore
attribute [local go_sem] max2_int min2_int max_two min_two max_three min_three max_four min_four   -- for this text's walks alone
set_option linter.unusedVariables false
set_option linter.unusedSimpArgs false

/-! ### impl_within: function 78 -/
def impl_within.f (a0 : Int) (a1 : Int) (a2 : Int) : Option (Bool) := if a0 ≥ a1 then (some (decide (a0 ≤ a2))) else (some false)
set_option maxHeartbeats 8000000 in
set_option maxRecDepth 100000 in
theorem impl_within.calls (a0 : Int) (a1 : Int) (a2 : Int) (r : Bool) (w : World) (h : impl_within.f a0 a1 a2 = some r) :
    Calls Try.prog 78 #[.int .i64 a0, .int .i64 a1, .int .i64 a2] w fun e w' => e = .returned (.bool r) ∧ Drawn0 w w' := by
  have H : (if a0 ≥ a1 then (some (decide (a0 ≤ a2))) else (some false)) = some r := h
  clear h
  by_cases c4 : a0 ≥ a1
  · rw [if_pos c4] at H
    have c4b0 : decide (a1 ≤ a0) = true := decide_eq_true c4
    clear c4
    obtain rfl := Option.some.inj H
    go_enter Try.func78, Try.ntmps78
    go_wp2
    go_ret
    exact ⟨by first | rfl | (simp; done) | (simp [*]; done), by repeat (first | exact Drawn0.refl _ | apply Drawn0.step)⟩
  · rw [if_neg c4] at H
    have c4b0 : decide (a1 ≤ a0) = false := decide_eq_false c4
    clear c4
    obtain rfl := Option.some.inj H
    go_enter Try.func78, Try.ntmps78
    go_wp2
    go_ret
    exact ⟨by first | rfl | (simp; done) | (simp [*]; done), by repeat (first | exact Drawn0.refl _ | apply Drawn0.step)⟩

end Go.Proofs.Ytpjpnppoejnafaa.G

/- G51 -/
-- Laid by wip/g/gprint.py out of the translation, by the kit's print program. Lean checks it.
namespace Go.Proofs.Ytpjpnppoejnafaa.G
open Go.RowKit Go.Proofs.YtpjpnppoejnafaaW.PrintWords Go.Proofs.YtpjpnppoejnafaaW.PrintLast Go.Proofs.YtpjpnppoejnafaaW.PrintMore
attribute [local go_sem] max2_int min2_int max_two min_two max_three min_three max_four min_four   -- for this text's walks alone
set_option linter.unusedVariables false
set_option linter.unusedSimpArgs false

/-! ### impl_NameOk: function 51 -/
def impl_NameOk.l0 : Nat → ByteArray → Int → Int → Option (Bool)
  | 0, _, _, _ => none
  | k + 1, x0, x6, x7 => if x7 < x6 then (if 0 ≤ x7 then (if x7 < (x0.size : Int) then (if (bt x0 x7) < 97 then (if (bt x0 x7) < 48 then (if (bt x0 x7) = 45 then (impl_NameOk.l0 k x0 x6 (wrap64 (x7 + 1))) else (some false)) else (if (bt x0 x7) > 57 then (if (bt x0 x7) = 45 then (impl_NameOk.l0 k x0 x6 (wrap64 (x7 + 1))) else (some false)) else (impl_NameOk.l0 k x0 x6 (wrap64 (x7 + 1))))) else (if (bt x0 x7) > 122 then (if (bt x0 x7) < 48 then (if (bt x0 x7) = 45 then (impl_NameOk.l0 k x0 x6 (wrap64 (x7 + 1))) else (some false)) else (if (bt x0 x7) > 57 then (if (bt x0 x7) = 45 then (impl_NameOk.l0 k x0 x6 (wrap64 (x7 + 1))) else (some false)) else (impl_NameOk.l0 k x0 x6 (wrap64 (x7 + 1))))) else (impl_NameOk.l0 k x0 x6 (wrap64 (x7 + 1))))) else (none)) else (none)) else ((impl_within.f (x0.size : Int) 1 20).bind fun t184 => (if t184 = true then (if 0 < (x0.size : Int) then (if (bt x0 0) = 45 then (some false) else (if 0 ≤ (wrap64 ((x0.size : Int) - 1)) then (if (wrap64 ((x0.size : Int) - 1)) < (x0.size : Int) then (some ((bt x0 (wrap64 ((x0.size : Int) - 1))) != 45)) else (none)) else (none))) else (none)) else (some false)))
def impl_NameOk.f (k : Nat) (a0 : ByteArray) : Option (Bool) := impl_NameOk.l0 k a0 (a0.size : Int) 0
set_option maxHeartbeats 8000000 in
set_option maxRecDepth 100000 in
theorem impl_NameOk.calls (k : Nat) (a0 : ByteArray) (r : Bool) (w : World) (h : impl_NameOk.f k a0 = some r) :
    Calls Try.prog 51 #[.string a0] w fun e w' => e = .returned (.bool r) ∧ Drawn0 w w' := by
  have H : (impl_NameOk.l0 k a0 (a0.size : Int) 0) = some r := h
  clear h
  have H' := Aside0.mk H
  clear H
  go_enter Try.func51, Try.ntmps51
  go_wp2
  go_loopg [7] k (fun kq v7 w' => ∃ (x7_1 : Int), v7 = .int .i64 x7_1 ∧ Aside0 (impl_NameOk.l0 kq a0 (a0.size : Int) x7_1 = some r) ∧ Aside0 (kq ≤ k) ∧ Drawn0 w w')
  case atStart => exact ⟨(0), (by first | rfl | (simp; done) | (simp [*]; done)), H', ⟨Nat.le_refl _⟩, by repeat (first | exact Drawn0.refl _ | apply Drawn0.step)⟩
  case round =>
    clear H'
    obtain ⟨x7_1, rfl, HA, HK1, ⟨m1, rfl⟩⟩ := hrel
    cases gk with
    | zero => exact absurd HA.out (by simp [impl_NameOk.l0])
    | succ k1 =>
      have H := HA.out
      clear HA
      simp only [impl_NameOk.l0] at H
      by_cases c2 : x7_1 < (a0.size : Int)
      · rw [if_pos c2] at H
        have c2b0 : decide (x7_1 < (a0.size : Int)) = true := decide_eq_true c2
        clear c2
        by_cases c3 : 0 ≤ x7_1
        · rw [if_pos c3] at H
          have c3b0 : decide (0 ≤ x7_1) = true := decide_eq_true c3
          clear c3
          by_cases c4 : x7_1 < (a0.size : Int)
          · rw [if_pos c4] at H
            have c4b0 : decide (x7_1 < (a0.size : Int)) = true := decide_eq_true c4
            clear c4
            by_cases c6 : (bt a0 x7_1) < 97
            · rw [if_pos c6] at H
              have c6b0 : decide ((bt a0 x7_1) < 97) = true := decide_eq_true c6
              clear c6
              by_cases c7 : (bt a0 x7_1) < 48
              · rw [if_pos c7] at H
                have c7b0 : decide ((bt a0 x7_1) < 48) = true := decide_eq_true c7
                clear c7
                by_cases c8 : (bt a0 x7_1) = 45
                · rw [if_pos c8] at H
                  have c8b0 : ((bt a0 x7_1) == 45) = true := beq_iff_eq.mpr c8
                  have c8b1 : ((bt a0 x7_1) != 45) = false := bne_eq_false_iff_eq.mpr c8
                  clear c8
                  have H' := Aside0.mk H
                  clear H
                  have p5 : 0 ≤ (x7_1 : Int) := of_decide_eq_true (by first | (with_reducible assumption) | assumption)
                  have q5 : x7_1 < (a0.size : Int) := of_decide_eq_true (by first | (with_reducible assumption) | assumption)
                  have hx5 := bt_at a0 x7_1
                  replace p5 := eq_true p5
                  replace q5 := eq_true q5
                  go_wp2
                  go_roundg k1
                  case measure => have := HK1.out; omega
                  case rel => exact ⟨(wrap64 (x7_1 + 1)), (by first | rfl | (simp; done) | (simp [*]; done)), H', ⟨by have := HK1.out; omega⟩, by repeat (first | exact Drawn0.refl _ | apply Drawn0.step)⟩
                · rw [if_neg c8] at H
                  have c8b0 : ((bt a0 x7_1) == 45) = false := beq_eq_false_iff_ne.mpr c8
                  have c8b1 : ((bt a0 x7_1) != 45) = true := bne_iff_ne.mpr c8
                  obtain rfl := Option.some.inj H
                  have p5 : 0 ≤ (x7_1 : Int) := of_decide_eq_true (by first | (with_reducible assumption) | assumption)
                  have q5 : x7_1 < (a0.size : Int) := of_decide_eq_true (by first | (with_reducible assumption) | assumption)
                  have hx5 := bt_at a0 x7_1
                  replace p5 := eq_true p5
                  replace q5 := eq_true q5
                  go_wp2
                  go_ret
                  exact ⟨by first | rfl | (simp; done) | (simp [*]; done), by repeat (first | exact Drawn0.refl _ | apply Drawn0.step)⟩
              · rw [if_neg c7] at H
                have c7b0 : decide ((bt a0 x7_1) < 48) = false := decide_eq_false c7
                clear c7
                by_cases c9 : (bt a0 x7_1) > 57
                · rw [if_pos c9] at H
                  have c9b0 : decide (57 < (bt a0 x7_1)) = true := decide_eq_true c9
                  clear c9
                  by_cases c10 : (bt a0 x7_1) = 45
                  · rw [if_pos c10] at H
                    have c10b0 : ((bt a0 x7_1) == 45) = true := beq_iff_eq.mpr c10
                    have c10b1 : ((bt a0 x7_1) != 45) = false := bne_eq_false_iff_eq.mpr c10
                    clear c10
                    have H' := Aside0.mk H
                    clear H
                    have p5 : 0 ≤ (x7_1 : Int) := of_decide_eq_true (by first | (with_reducible assumption) | assumption)
                    have q5 : x7_1 < (a0.size : Int) := of_decide_eq_true (by first | (with_reducible assumption) | assumption)
                    have hx5 := bt_at a0 x7_1
                    replace p5 := eq_true p5
                    replace q5 := eq_true q5
                    go_wp2
                    go_roundg k1
                    case measure => have := HK1.out; omega
                    case rel => exact ⟨(wrap64 (x7_1 + 1)), (by first | rfl | (simp; done) | (simp [*]; done)), H', ⟨by have := HK1.out; omega⟩, by repeat (first | exact Drawn0.refl _ | apply Drawn0.step)⟩
                  · rw [if_neg c10] at H
                    have c10b0 : ((bt a0 x7_1) == 45) = false := beq_eq_false_iff_ne.mpr c10
                    have c10b1 : ((bt a0 x7_1) != 45) = true := bne_iff_ne.mpr c10
                    obtain rfl := Option.some.inj H
                    have p5 : 0 ≤ (x7_1 : Int) := of_decide_eq_true (by first | (with_reducible assumption) | assumption)
                    have q5 : x7_1 < (a0.size : Int) := of_decide_eq_true (by first | (with_reducible assumption) | assumption)
                    have hx5 := bt_at a0 x7_1
                    replace p5 := eq_true p5
                    replace q5 := eq_true q5
                    go_wp2
                    go_ret
                    exact ⟨by first | rfl | (simp; done) | (simp [*]; done), by repeat (first | exact Drawn0.refl _ | apply Drawn0.step)⟩
                · rw [if_neg c9] at H
                  have c9b0 : decide (57 < (bt a0 x7_1)) = false := decide_eq_false c9
                  clear c9
                  have H' := Aside0.mk H
                  clear H
                  have p5 : 0 ≤ (x7_1 : Int) := of_decide_eq_true (by first | (with_reducible assumption) | assumption)
                  have q5 : x7_1 < (a0.size : Int) := of_decide_eq_true (by first | (with_reducible assumption) | assumption)
                  have hx5 := bt_at a0 x7_1
                  replace p5 := eq_true p5
                  replace q5 := eq_true q5
                  go_wp2
                  go_roundg k1
                  case measure => have := HK1.out; omega
                  case rel => exact ⟨(wrap64 (x7_1 + 1)), (by first | rfl | (simp; done) | (simp [*]; done)), H', ⟨by have := HK1.out; omega⟩, by repeat (first | exact Drawn0.refl _ | apply Drawn0.step)⟩
            · rw [if_neg c6] at H
              have c6b0 : decide ((bt a0 x7_1) < 97) = false := decide_eq_false c6
              clear c6
              by_cases c11 : (bt a0 x7_1) > 122
              · rw [if_pos c11] at H
                have c11b0 : decide (122 < (bt a0 x7_1)) = true := decide_eq_true c11
                clear c11
                by_cases c12 : (bt a0 x7_1) < 48
                · rw [if_pos c12] at H
                  have c12b0 : decide ((bt a0 x7_1) < 48) = true := decide_eq_true c12
                  clear c12
                  by_cases c13 : (bt a0 x7_1) = 45
                  · rw [if_pos c13] at H
                    have c13b0 : ((bt a0 x7_1) == 45) = true := beq_iff_eq.mpr c13
                    have c13b1 : ((bt a0 x7_1) != 45) = false := bne_eq_false_iff_eq.mpr c13
                    clear c13
                    have H' := Aside0.mk H
                    clear H
                    have p5 : 0 ≤ (x7_1 : Int) := of_decide_eq_true (by first | (with_reducible assumption) | assumption)
                    have q5 : x7_1 < (a0.size : Int) := of_decide_eq_true (by first | (with_reducible assumption) | assumption)
                    have hx5 := bt_at a0 x7_1
                    replace p5 := eq_true p5
                    replace q5 := eq_true q5
                    go_wp2
                    go_roundg k1
                    case measure => have := HK1.out; omega
                    case rel => exact ⟨(wrap64 (x7_1 + 1)), (by first | rfl | (simp; done) | (simp [*]; done)), H', ⟨by have := HK1.out; omega⟩, by repeat (first | exact Drawn0.refl _ | apply Drawn0.step)⟩
                  · rw [if_neg c13] at H
                    have c13b0 : ((bt a0 x7_1) == 45) = false := beq_eq_false_iff_ne.mpr c13
                    have c13b1 : ((bt a0 x7_1) != 45) = true := bne_iff_ne.mpr c13
                    obtain rfl := Option.some.inj H
                    have p5 : 0 ≤ (x7_1 : Int) := of_decide_eq_true (by first | (with_reducible assumption) | assumption)
                    have q5 : x7_1 < (a0.size : Int) := of_decide_eq_true (by first | (with_reducible assumption) | assumption)
                    have hx5 := bt_at a0 x7_1
                    replace p5 := eq_true p5
                    replace q5 := eq_true q5
                    go_wp2
                    go_ret
                    exact ⟨by first | rfl | (simp; done) | (simp [*]; done), by repeat (first | exact Drawn0.refl _ | apply Drawn0.step)⟩
                · rw [if_neg c12] at H
                  have c12b0 : decide ((bt a0 x7_1) < 48) = false := decide_eq_false c12
                  clear c12
                  by_cases c14 : (bt a0 x7_1) > 57
                  · rw [if_pos c14] at H
                    have c14b0 : decide (57 < (bt a0 x7_1)) = true := decide_eq_true c14
                    clear c14
                    by_cases c15 : (bt a0 x7_1) = 45
                    · rw [if_pos c15] at H
                      have c15b0 : ((bt a0 x7_1) == 45) = true := beq_iff_eq.mpr c15
                      have c15b1 : ((bt a0 x7_1) != 45) = false := bne_eq_false_iff_eq.mpr c15
                      clear c15
                      have H' := Aside0.mk H
                      clear H
                      have p5 : 0 ≤ (x7_1 : Int) := of_decide_eq_true (by first | (with_reducible assumption) | assumption)
                      have q5 : x7_1 < (a0.size : Int) := of_decide_eq_true (by first | (with_reducible assumption) | assumption)
                      have hx5 := bt_at a0 x7_1
                      replace p5 := eq_true p5
                      replace q5 := eq_true q5
                      go_wp2
                      go_roundg k1
                      case measure => have := HK1.out; omega
                      case rel => exact ⟨(wrap64 (x7_1 + 1)), (by first | rfl | (simp; done) | (simp [*]; done)), H', ⟨by have := HK1.out; omega⟩, by repeat (first | exact Drawn0.refl _ | apply Drawn0.step)⟩
                    · rw [if_neg c15] at H
                      have c15b0 : ((bt a0 x7_1) == 45) = false := beq_eq_false_iff_ne.mpr c15
                      have c15b1 : ((bt a0 x7_1) != 45) = true := bne_iff_ne.mpr c15
                      obtain rfl := Option.some.inj H
                      have p5 : 0 ≤ (x7_1 : Int) := of_decide_eq_true (by first | (with_reducible assumption) | assumption)
                      have q5 : x7_1 < (a0.size : Int) := of_decide_eq_true (by first | (with_reducible assumption) | assumption)
                      have hx5 := bt_at a0 x7_1
                      replace p5 := eq_true p5
                      replace q5 := eq_true q5
                      go_wp2
                      go_ret
                      exact ⟨by first | rfl | (simp; done) | (simp [*]; done), by repeat (first | exact Drawn0.refl _ | apply Drawn0.step)⟩
                  · rw [if_neg c14] at H
                    have c14b0 : decide (57 < (bt a0 x7_1)) = false := decide_eq_false c14
                    clear c14
                    have H' := Aside0.mk H
                    clear H
                    have p5 : 0 ≤ (x7_1 : Int) := of_decide_eq_true (by first | (with_reducible assumption) | assumption)
                    have q5 : x7_1 < (a0.size : Int) := of_decide_eq_true (by first | (with_reducible assumption) | assumption)
                    have hx5 := bt_at a0 x7_1
                    replace p5 := eq_true p5
                    replace q5 := eq_true q5
                    go_wp2
                    go_roundg k1
                    case measure => have := HK1.out; omega
                    case rel => exact ⟨(wrap64 (x7_1 + 1)), (by first | rfl | (simp; done) | (simp [*]; done)), H', ⟨by have := HK1.out; omega⟩, by repeat (first | exact Drawn0.refl _ | apply Drawn0.step)⟩
              · rw [if_neg c11] at H
                have c11b0 : decide (122 < (bt a0 x7_1)) = false := decide_eq_false c11
                clear c11
                have H' := Aside0.mk H
                clear H
                have p5 : 0 ≤ (x7_1 : Int) := of_decide_eq_true (by first | (with_reducible assumption) | assumption)
                have q5 : x7_1 < (a0.size : Int) := of_decide_eq_true (by first | (with_reducible assumption) | assumption)
                have hx5 := bt_at a0 x7_1
                replace p5 := eq_true p5
                replace q5 := eq_true q5
                go_wp2
                go_roundg k1
                case measure => have := HK1.out; omega
                case rel => exact ⟨(wrap64 (x7_1 + 1)), (by first | rfl | (simp; done) | (simp [*]; done)), H', ⟨by have := HK1.out; omega⟩, by repeat (first | exact Drawn0.refl _ | apply Drawn0.step)⟩
          · rw [if_neg c4] at H
            exact absurd H (by simp)
        · rw [if_neg c3] at H
          exact absurd H (by simp)
      · rw [if_neg c2] at H
        have c2b0 : decide (x7_1 < (a0.size : Int)) = false := decide_eq_false c2
        clear c2
        replace H := Option.bind_eq_some_iff.mp H
        obtain ⟨t184, A160, H⟩ := H
        replace H : (if t184 = true then (if 0 < (a0.size : Int) then (if (bt a0 0) = 45 then (some false) else (if 0 ≤ (wrap64 ((a0.size : Int) - 1)) then (if (wrap64 ((a0.size : Int) - 1)) < (a0.size : Int) then (some ((bt a0 (wrap64 ((a0.size : Int) - 1))) != 45)) else (none)) else (none))) else (none)) else (some false)) = some r := H
        have A16 := Aside0.mk A160
        clear A160
        by_cases c17 : t184 = true
        · subst c17
          have H1 : (if 0 < (a0.size : Int) then (if (bt a0 0) = 45 then (some false) else (if 0 ≤ (wrap64 ((a0.size : Int) - 1)) then (if (wrap64 ((a0.size : Int) - 1)) < (a0.size : Int) then (some ((bt a0 (wrap64 ((a0.size : Int) - 1))) != 45)) else (none)) else (none))) else (none)) = some r := by rw [if_pos rfl] at H; exact H
          clear H
          have H := H1
          clear H1
          by_cases c18 : 0 < (a0.size : Int)
          · rw [if_pos c18] at H
            have c18b0 : decide (0 < (a0.size : Int)) = true := decide_eq_true c18
            have c18b1 : decide (0 < a0.size) = true := decide_eq_true (by omega)
            clear c18
            by_cases c20 : (bt a0 0) = 45
            · rw [if_pos c20] at H
              have c20b0 : ((bt a0 0) == 45) = true := beq_iff_eq.mpr c20
              have c20b1 : ((bt a0 0) != 45) = false := bne_eq_false_iff_eq.mpr c20
              clear c20
              obtain rfl := Option.some.inj H
              go_wp2_with (first | ((with_reducible refine gate_callee (f := 78) rfl ?_); refine goesL_ (some 34) rfl rfl Try.func78 (by kernel_rfl) rfl #[.int .i64 (a0.size : Int), .int .i64 1, .int .i64 20] rfl (by (try simp only [List.map_toArray, List.map_cons, List.map_nil]); first | done | rfl | (simp only [List.length_drop, List.length_take]; rfl)) ?_; (with_reducible refine (impl_within.calls (a0.size : Int) 1 20 true _ A16.out).mono ?_); rintro e w' ⟨rfl, ⟨nd, rfl⟩⟩; refine ⟨_, rfl, ?_⟩; have p19 : 0 ≤ (0 : Int) := (by omega); have q19 : 0 < a0.size := (by have : (0 : Int) < (a0.size : Int) := of_decide_eq_true (by first | (with_reducible assumption) | assumption); omega); have hx19 : ∀ h : 0 < a0.size, ((a0[0]'h).toNat : Int) = bt a0 0 := bt_at a0 0; clear p19; have qi19 : (0 < (a0.size : Int)) = True := eq_true (of_decide_eq_true (by first | (with_reducible assumption) | assumption)); replace q19 := eq_true q19))
              go_ret
              exact ⟨by first | rfl | (simp; done) | (simp [*]; done), by repeat (first | exact Drawn0.refl _ | apply Drawn0.step)⟩
            · rw [if_neg c20] at H
              have c20b0 : ((bt a0 0) == 45) = false := beq_eq_false_iff_ne.mpr c20
              have c20b1 : ((bt a0 0) != 45) = true := bne_iff_ne.mpr c20
              obtain ⟨ji21, hji21⟩ : ∃ j_ : Int, (wrap64 ((a0.size : Int) - 1)) = j_ := ⟨_, rfl⟩
              replace H : (if 0 ≤ (ji21) then (if (ji21) < (a0.size : Int) then (some ((bt a0 (ji21)) != 45)) else (none)) else (none)) = some r := by first | (rw [hji21] at H; exact H) | (simp only [hji21] at H ⊢; exact H)
              (try rw [hji21] at A16)
              have hji21w : (IntKind.i64.wrap ((a0.size : Int) - 1)) = ji21 := (i64_w _).trans hji21
              by_cases c22 : 0 ≤ (ji21)
              · rw [if_pos c22] at H
                have c22b0 : decide (0 ≤ (ji21)) = true := decide_eq_true c22
                clear c22
                by_cases c23 : (ji21) < (a0.size : Int)
                · rw [if_pos c23] at H
                  have c23b0 : decide ((ji21) < (a0.size : Int)) = true := decide_eq_true c23
                  clear c23
                  obtain rfl := Option.some.inj H
                  go_wp2_with (first | ((with_reducible refine gate_callee (f := 78) rfl ?_); refine goesL_ (some 34) rfl rfl Try.func78 (by kernel_rfl) rfl #[.int .i64 (a0.size : Int), .int .i64 1, .int .i64 20] rfl (by (try simp only [List.map_toArray, List.map_cons, List.map_nil]); first | done | rfl | (simp only [List.length_drop, List.length_take]; rfl)) ?_; (with_reducible refine (impl_within.calls (a0.size : Int) 1 20 true _ A16.out).mono ?_); rintro e w' ⟨rfl, ⟨nd, rfl⟩⟩; refine ⟨_, rfl, ?_⟩; have p19 : 0 ≤ (0 : Int) := (by omega); have q19 : 0 < a0.size := (by have : (0 : Int) < (a0.size : Int) := of_decide_eq_true (by first | (with_reducible assumption) | assumption); omega); have hx19 : ∀ h : 0 < a0.size, ((a0[0]'h).toNat : Int) = bt a0 0 := bt_at a0 0; clear p19; have qi19 : (0 < (a0.size : Int)) = True := eq_true (of_decide_eq_true (by first | (with_reducible assumption) | assumption)); replace q19 := eq_true q19; have p24 : 0 ≤ ((ji21) : Int) := of_decide_eq_true (by first | (with_reducible assumption) | assumption); have q24 : (ji21) < (a0.size : Int) := of_decide_eq_true (by first | (with_reducible assumption) | assumption); have hx24 := bt_at a0 (ji21); replace p24 := eq_true p24; replace q24 := eq_true q24))
                  go_ret
                  exact ⟨by first | rfl | (simp; done) | (simp only [← hji21] <;> (first | rfl | simp)) | (simp [*]; done), by repeat (first | exact Drawn0.refl _ | apply Drawn0.step)⟩
                · rw [if_neg c23] at H
                  exact absurd H (by simp)
              · rw [if_neg c22] at H
                exact absurd H (by simp)
          · rw [if_neg c18] at H
            exact absurd H (by simp)
        · replace c17 := Bool.eq_false_iff.mpr c17
          subst c17
          have H1 : (some false) = some r := by rw [if_neg (show ¬ (false = true) by decide)] at H; exact H
          clear H
          have H := H1
          clear H1
          obtain rfl := Option.some.inj H
          go_wp2_with (first | ((with_reducible refine gate_callee (f := 78) rfl ?_); refine goesL_ (some 34) rfl rfl Try.func78 (by kernel_rfl) rfl #[.int .i64 (a0.size : Int), .int .i64 1, .int .i64 20] rfl (by (try simp only [List.map_toArray, List.map_cons, List.map_nil]); first | done | rfl | (simp only [List.length_drop, List.length_take]; rfl)) ?_; (with_reducible refine (impl_within.calls (a0.size : Int) 1 20 false _ A16.out).mono ?_); rintro e w' ⟨rfl, ⟨nd, rfl⟩⟩; refine ⟨_, rfl, ?_⟩))
          go_ret
          exact ⟨by first | rfl | (simp; done) | (simp [*]; done), by repeat (first | exact Drawn0.refl _ | apply Drawn0.step)⟩

end Go.Proofs.Ytpjpnppoejnafaa.G

/- G76 -/
-- Laid by wip/g/gprint.py out of the translation, by the kit's print program. Lean checks it.
namespace Go.Proofs.Ytpjpnppoejnafaa.G
open Go.RowKit Go.Proofs.YtpjpnppoejnafaaW.PrintWords Go.Proofs.YtpjpnppoejnafaaW.PrintLast Go.Proofs.YtpjpnppoejnafaaW.PrintMore
attribute [local go_sem] max2_int min2_int max_two min_two max_three min_three max_four min_four   -- for this text's walks alone
set_option linter.unusedVariables false
set_option linter.unusedSimpArgs false

/-! ### spec_l1In: function 76 -/
def spec_l1In.f (a0 : Int) (a1 : Int) (a2 : Int) : Option (Bool) := if a0 ≥ a1 then (some (decide (a0 ≤ a2))) else (some false)
set_option maxHeartbeats 8000000 in
set_option maxRecDepth 100000 in
theorem spec_l1In.calls (a0 : Int) (a1 : Int) (a2 : Int) (r : Bool) (w : World) (h : spec_l1In.f a0 a1 a2 = some r) :
    Calls Try.prog 76 #[.int .i64 a0, .int .i64 a1, .int .i64 a2] w fun e w' => e = .returned (.bool r) ∧ Drawn0 w w' := by
  have H : (if a0 ≥ a1 then (some (decide (a0 ≤ a2))) else (some false)) = some r := h
  clear h
  by_cases c4 : a0 ≥ a1
  · rw [if_pos c4] at H
    have c4b0 : decide (a1 ≤ a0) = true := decide_eq_true c4
    clear c4
    obtain rfl := Option.some.inj H
    go_enter Try.func76, Try.ntmps76
    go_wp2
    go_ret
    exact ⟨by first | rfl | (simp; done) | (simp [*]; done), by repeat (first | exact Drawn0.refl _ | apply Drawn0.step)⟩
  · rw [if_neg c4] at H
    have c4b0 : decide (a1 ≤ a0) = false := decide_eq_false c4
    clear c4
    obtain rfl := Option.some.inj H
    go_enter Try.func76, Try.ntmps76
    go_wp2
    go_ret
    exact ⟨by first | rfl | (simp; done) | (simp [*]; done), by repeat (first | exact Drawn0.refl _ | apply Drawn0.step)⟩

end Go.Proofs.Ytpjpnppoejnafaa.G

/- G46 -/
-- Laid by wip/g/gprint.py out of the translation, by the kit's print program. Lean checks it.
namespace Go.Proofs.Ytpjpnppoejnafaa.G
open Go.RowKit Go.Proofs.YtpjpnppoejnafaaW.PrintWords Go.Proofs.YtpjpnppoejnafaaW.PrintLast Go.Proofs.YtpjpnppoejnafaaW.PrintMore
attribute [local go_sem] max2_int min2_int max_two min_two max_three min_three max_four min_four   -- for this text's walks alone
set_option linter.unusedVariables false
set_option linter.unusedSimpArgs false

/-! ### spec_NameOk: function 46 -/
def spec_NameOk.l0 : Nat → ByteArray → Int → Option (Bool)
  | 0, _, _ => none
  | k + 1, x0, x3 => if x3 < (x0.size : Int) then (if 0 ≤ x3 then ((spec_l1In.f (wrap64 (bt x0 x3)) 97 122).bind fun t171 => (if t171 = true then (spec_NameOk.l0 k x0 (wrap64 (x3 + 1))) else ((spec_l1In.f (wrap64 (bt x0 x3)) 48 57).bind fun t172 => (if t172 = true then (spec_NameOk.l0 k x0 (wrap64 (x3 + 1))) else (if (bt x0 x3) = 45 then (spec_NameOk.l0 k x0 (wrap64 (x3 + 1))) else (some false)))))) else (none)) else ((spec_l1In.f (x0.size : Int) 1 20).bind fun t170 => (if t170 = true then (if 0 < (x0.size : Int) then (if (bt x0 0) = 45 then (some false) else (if 0 ≤ (wrap64 ((x0.size : Int) - 1)) then (if (wrap64 ((x0.size : Int) - 1)) < (x0.size : Int) then (some ((bt x0 (wrap64 ((x0.size : Int) - 1))) != 45)) else (none)) else (none))) else (none)) else (some false)))
def spec_NameOk.f (k : Nat) (a0 : ByteArray) : Option (Bool) := spec_NameOk.l0 k a0 0
set_option maxHeartbeats 8000000 in
set_option maxRecDepth 100000 in
theorem spec_NameOk.calls (k : Nat) (a0 : ByteArray) (r : Bool) (w : World) (h : spec_NameOk.f k a0 = some r) :
    Calls Try.prog 46 #[.string a0] w fun e w' => e = .returned (.bool r) ∧ Drawn0 w w' := by
  have H : (spec_NameOk.l0 k a0 0) = some r := h
  clear h
  have H' := Aside0.mk H
  clear H
  go_enter Try.func46, Try.ntmps46
  go_wp2
  go_loopg [3] k (fun kq v3 w' => ∃ (x3_1 : Int), v3 = .int .i64 x3_1 ∧ Aside0 (spec_NameOk.l0 kq a0 x3_1 = some r) ∧ Aside0 (kq ≤ k) ∧ Drawn0 w w')
  case atStart => exact ⟨(0), (by first | rfl | (simp; done) | (simp [*]; done)), H', ⟨Nat.le_refl _⟩, by repeat (first | exact Drawn0.refl _ | apply Drawn0.step)⟩
  case round =>
    clear H'
    obtain ⟨x3_1, rfl, HA, HK1, ⟨m1, rfl⟩⟩ := hrel
    cases gk with
    | zero => exact absurd HA.out (by simp [spec_NameOk.l0])
    | succ k1 =>
      have H := HA.out
      clear HA
      simp only [spec_NameOk.l0] at H
      by_cases c2 : x3_1 < (a0.size : Int)
      · rw [if_pos c2] at H
        have c2b0 : decide (x3_1 < (a0.size : Int)) = true := decide_eq_true c2
        clear c2
        by_cases c3 : 0 ≤ x3_1
        · rw [if_pos c3] at H
          have c3b0 : decide (0 ≤ x3_1) = true := decide_eq_true c3
          clear c3
          replace H := Option.bind_eq_some_iff.mp H
          obtain ⟨t171, A50, H⟩ := H
          replace H : (if t171 = true then (spec_NameOk.l0 k1 a0 (wrap64 (x3_1 + 1))) else ((spec_l1In.f (wrap64 (bt a0 x3_1)) 48 57).bind fun t172 => (if t172 = true then (spec_NameOk.l0 k1 a0 (wrap64 (x3_1 + 1))) else (if (bt a0 x3_1) = 45 then (spec_NameOk.l0 k1 a0 (wrap64 (x3_1 + 1))) else (some false))))) = some r := H
          have A5 := Aside0.mk A50
          clear A50
          by_cases c6 : t171 = true
          · subst c6
            have H1 : (spec_NameOk.l0 k1 a0 (wrap64 (x3_1 + 1))) = some r := by rw [if_pos rfl] at H; exact H
            clear H
            have H := H1
            clear H1
            have H' := Aside0.mk H
            clear H
            have p4 : 0 ≤ (x3_1 : Int) := of_decide_eq_true (by first | (with_reducible assumption) | assumption)
            have q4 : x3_1 < (a0.size : Int) := of_decide_eq_true (by first | (with_reducible assumption) | assumption)
            have hx4 := bt_at a0 x3_1
            replace p4 := eq_true p4
            replace q4 := eq_true q4
            go_wp2_with (first | ((with_reducible refine gate_callee (f := 76) rfl ?_); refine goesL_ (some 14) rfl rfl Try.func76 (by kernel_rfl) rfl #[.int .i64 (wrap64 (bt a0 x3_1)), .int .i64 97, .int .i64 122] rfl (by (try simp only [List.map_toArray, List.map_cons, List.map_nil]); first | done | rfl | (simp only [List.length_drop, List.length_take]; rfl)) ?_; (with_reducible refine (spec_l1In.calls (wrap64 (bt a0 x3_1)) 97 122 true _ A5.out).mono ?_); rintro e w' ⟨rfl, ⟨nd, rfl⟩⟩; refine ⟨_, rfl, ?_⟩))
            go_roundg k1
            case measure => have := HK1.out; omega
            case rel => exact ⟨(wrap64 (x3_1 + 1)), (by first | rfl | (simp; done) | (simp [*]; done)), H', ⟨by have := HK1.out; omega⟩, by repeat (first | exact Drawn0.refl _ | apply Drawn0.step)⟩
          · replace c6 := Bool.eq_false_iff.mpr c6
            subst c6
            have H1 : ((spec_l1In.f (wrap64 (bt a0 x3_1)) 48 57).bind fun t172 => (if t172 = true then (spec_NameOk.l0 k1 a0 (wrap64 (x3_1 + 1))) else (if (bt a0 x3_1) = 45 then (spec_NameOk.l0 k1 a0 (wrap64 (x3_1 + 1))) else (some false)))) = some r := by rw [if_neg (show ¬ (false = true) by decide)] at H; exact H
            clear H
            have H := H1
            clear H1
            replace H := Option.bind_eq_some_iff.mp H
            obtain ⟨t172, A80, H⟩ := H
            replace H : (if t172 = true then (spec_NameOk.l0 k1 a0 (wrap64 (x3_1 + 1))) else (if (bt a0 x3_1) = 45 then (spec_NameOk.l0 k1 a0 (wrap64 (x3_1 + 1))) else (some false))) = some r := H
            have A8 := Aside0.mk A80
            clear A80
            by_cases c9 : t172 = true
            · subst c9
              have H1 : (spec_NameOk.l0 k1 a0 (wrap64 (x3_1 + 1))) = some r := by rw [if_pos rfl] at H; exact H
              clear H
              have H := H1
              clear H1
              have H' := Aside0.mk H
              clear H
              have p4 : 0 ≤ (x3_1 : Int) := of_decide_eq_true (by first | (with_reducible assumption) | assumption)
              have q4 : x3_1 < (a0.size : Int) := of_decide_eq_true (by first | (with_reducible assumption) | assumption)
              have hx4 := bt_at a0 x3_1
              replace p4 := eq_true p4
              replace q4 := eq_true q4
              go_wp2_with (first | ((with_reducible refine gate_callee (f := 76) rfl ?_); refine goesL_ (some 14) rfl rfl Try.func76 (by kernel_rfl) rfl #[.int .i64 (wrap64 (bt a0 x3_1)), .int .i64 97, .int .i64 122] rfl (by (try simp only [List.map_toArray, List.map_cons, List.map_nil]); first | done | rfl | (simp only [List.length_drop, List.length_take]; rfl)) ?_; (with_reducible refine (spec_l1In.calls (wrap64 (bt a0 x3_1)) 97 122 false _ A5.out).mono ?_); rintro e w' ⟨rfl, ⟨nd, rfl⟩⟩; refine ⟨_, rfl, ?_⟩; have p7 : 0 ≤ (x3_1 : Int) := of_decide_eq_true (by first | (with_reducible assumption) | assumption); have q7 : x3_1 < (a0.size : Int) := of_decide_eq_true (by first | (with_reducible assumption) | assumption); have hx7 := bt_at a0 x3_1; replace p7 := eq_true p7; replace q7 := eq_true q7) | (go_at_call 76; (with_reducible refine (spec_l1In.calls (wrap64 (bt a0 x3_1)) 48 57 true _ A8.out).mono ?_); rintro e w' ⟨rfl, ⟨nd, rfl⟩⟩))
              go_roundg k1
              case measure => have := HK1.out; omega
              case rel => exact ⟨(wrap64 (x3_1 + 1)), (by first | rfl | (simp; done) | (simp [*]; done)), H', ⟨by have := HK1.out; omega⟩, by repeat (first | exact Drawn0.refl _ | apply Drawn0.step)⟩
            · replace c9 := Bool.eq_false_iff.mpr c9
              subst c9
              have H1 : (if (bt a0 x3_1) = 45 then (spec_NameOk.l0 k1 a0 (wrap64 (x3_1 + 1))) else (some false)) = some r := by rw [if_neg (show ¬ (false = true) by decide)] at H; exact H
              clear H
              have H := H1
              clear H1
              by_cases c11 : (bt a0 x3_1) = 45
              · rw [if_pos c11] at H
                have c11b0 : ((bt a0 x3_1) == 45) = true := beq_iff_eq.mpr c11
                have c11b1 : ((bt a0 x3_1) != 45) = false := bne_eq_false_iff_eq.mpr c11
                clear c11
                have H' := Aside0.mk H
                clear H
                have p4 : 0 ≤ (x3_1 : Int) := of_decide_eq_true (by first | (with_reducible assumption) | assumption)
                have q4 : x3_1 < (a0.size : Int) := of_decide_eq_true (by first | (with_reducible assumption) | assumption)
                have hx4 := bt_at a0 x3_1
                replace p4 := eq_true p4
                replace q4 := eq_true q4
                go_wp2_with (first | ((with_reducible refine gate_callee (f := 76) rfl ?_); refine goesL_ (some 14) rfl rfl Try.func76 (by kernel_rfl) rfl #[.int .i64 (wrap64 (bt a0 x3_1)), .int .i64 97, .int .i64 122] rfl (by (try simp only [List.map_toArray, List.map_cons, List.map_nil]); first | done | rfl | (simp only [List.length_drop, List.length_take]; rfl)) ?_; (with_reducible refine (spec_l1In.calls (wrap64 (bt a0 x3_1)) 97 122 false _ A5.out).mono ?_); rintro e w' ⟨rfl, ⟨nd, rfl⟩⟩; refine ⟨_, rfl, ?_⟩; have p7 : 0 ≤ (x3_1 : Int) := of_decide_eq_true (by first | (with_reducible assumption) | assumption); have q7 : x3_1 < (a0.size : Int) := of_decide_eq_true (by first | (with_reducible assumption) | assumption); have hx7 := bt_at a0 x3_1; replace p7 := eq_true p7; replace q7 := eq_true q7) | (go_at_call 76; (with_reducible refine (spec_l1In.calls (wrap64 (bt a0 x3_1)) 48 57 false _ A8.out).mono ?_); rintro e w' ⟨rfl, ⟨nd, rfl⟩⟩; have p10 : 0 ≤ (x3_1 : Int) := of_decide_eq_true (by first | (with_reducible assumption) | assumption); have q10 : x3_1 < (a0.size : Int) := of_decide_eq_true (by first | (with_reducible assumption) | assumption); have hx10 := bt_at a0 x3_1; replace p10 := eq_true p10; replace q10 := eq_true q10))
                go_roundg k1
                case measure => have := HK1.out; omega
                case rel => exact ⟨(wrap64 (x3_1 + 1)), (by first | rfl | (simp; done) | (simp [*]; done)), H', ⟨by have := HK1.out; omega⟩, by repeat (first | exact Drawn0.refl _ | apply Drawn0.step)⟩
              · rw [if_neg c11] at H
                have c11b0 : ((bt a0 x3_1) == 45) = false := beq_eq_false_iff_ne.mpr c11
                have c11b1 : ((bt a0 x3_1) != 45) = true := bne_iff_ne.mpr c11
                obtain rfl := Option.some.inj H
                have p4 : 0 ≤ (x3_1 : Int) := of_decide_eq_true (by first | (with_reducible assumption) | assumption)
                have q4 : x3_1 < (a0.size : Int) := of_decide_eq_true (by first | (with_reducible assumption) | assumption)
                have hx4 := bt_at a0 x3_1
                replace p4 := eq_true p4
                replace q4 := eq_true q4
                go_wp2_with (first | ((with_reducible refine gate_callee (f := 76) rfl ?_); refine goesL_ (some 14) rfl rfl Try.func76 (by kernel_rfl) rfl #[.int .i64 (wrap64 (bt a0 x3_1)), .int .i64 97, .int .i64 122] rfl (by (try simp only [List.map_toArray, List.map_cons, List.map_nil]); first | done | rfl | (simp only [List.length_drop, List.length_take]; rfl)) ?_; (with_reducible refine (spec_l1In.calls (wrap64 (bt a0 x3_1)) 97 122 false _ A5.out).mono ?_); rintro e w' ⟨rfl, ⟨nd, rfl⟩⟩; refine ⟨_, rfl, ?_⟩; have p7 : 0 ≤ (x3_1 : Int) := of_decide_eq_true (by first | (with_reducible assumption) | assumption); have q7 : x3_1 < (a0.size : Int) := of_decide_eq_true (by first | (with_reducible assumption) | assumption); have hx7 := bt_at a0 x3_1; replace p7 := eq_true p7; replace q7 := eq_true q7) | (go_at_call 76; (with_reducible refine (spec_l1In.calls (wrap64 (bt a0 x3_1)) 48 57 false _ A8.out).mono ?_); rintro e w' ⟨rfl, ⟨nd, rfl⟩⟩; have p10 : 0 ≤ (x3_1 : Int) := of_decide_eq_true (by first | (with_reducible assumption) | assumption); have q10 : x3_1 < (a0.size : Int) := of_decide_eq_true (by first | (with_reducible assumption) | assumption); have hx10 := bt_at a0 x3_1; replace p10 := eq_true p10; replace q10 := eq_true q10))
                go_ret
                exact ⟨by first | rfl | (simp; done) | (simp [*]; done), by repeat (first | exact Drawn0.refl _ | apply Drawn0.step)⟩
        · rw [if_neg c3] at H
          exact absurd H (by simp)
      · rw [if_neg c2] at H
        have c2b0 : decide (x3_1 < (a0.size : Int)) = false := decide_eq_false c2
        clear c2
        replace H := Option.bind_eq_some_iff.mp H
        obtain ⟨t170, A120, H⟩ := H
        replace H : (if t170 = true then (if 0 < (a0.size : Int) then (if (bt a0 0) = 45 then (some false) else (if 0 ≤ (wrap64 ((a0.size : Int) - 1)) then (if (wrap64 ((a0.size : Int) - 1)) < (a0.size : Int) then (some ((bt a0 (wrap64 ((a0.size : Int) - 1))) != 45)) else (none)) else (none))) else (none)) else (some false)) = some r := H
        have A12 := Aside0.mk A120
        clear A120
        by_cases c13 : t170 = true
        · subst c13
          have H1 : (if 0 < (a0.size : Int) then (if (bt a0 0) = 45 then (some false) else (if 0 ≤ (wrap64 ((a0.size : Int) - 1)) then (if (wrap64 ((a0.size : Int) - 1)) < (a0.size : Int) then (some ((bt a0 (wrap64 ((a0.size : Int) - 1))) != 45)) else (none)) else (none))) else (none)) = some r := by rw [if_pos rfl] at H; exact H
          clear H
          have H := H1
          clear H1
          by_cases c14 : 0 < (a0.size : Int)
          · rw [if_pos c14] at H
            have c14b0 : decide (0 < (a0.size : Int)) = true := decide_eq_true c14
            have c14b1 : decide (0 < a0.size) = true := decide_eq_true (by omega)
            clear c14
            by_cases c16 : (bt a0 0) = 45
            · rw [if_pos c16] at H
              have c16b0 : ((bt a0 0) == 45) = true := beq_iff_eq.mpr c16
              have c16b1 : ((bt a0 0) != 45) = false := bne_eq_false_iff_eq.mpr c16
              clear c16
              obtain rfl := Option.some.inj H
              go_wp2_with (first | ((with_reducible refine gate_callee (f := 76) rfl ?_); refine goesL_ (some 32) rfl rfl Try.func76 (by kernel_rfl) rfl #[.int .i64 (a0.size : Int), .int .i64 1, .int .i64 20] rfl (by (try simp only [List.map_toArray, List.map_cons, List.map_nil]); first | done | rfl | (simp only [List.length_drop, List.length_take]; rfl)) ?_; (with_reducible refine (spec_l1In.calls (a0.size : Int) 1 20 true _ A12.out).mono ?_); rintro e w' ⟨rfl, ⟨nd, rfl⟩⟩; refine ⟨_, rfl, ?_⟩; have p15 : 0 ≤ (0 : Int) := (by omega); have q15 : 0 < a0.size := (by have : (0 : Int) < (a0.size : Int) := of_decide_eq_true (by first | (with_reducible assumption) | assumption); omega); have hx15 : ∀ h : 0 < a0.size, ((a0[0]'h).toNat : Int) = bt a0 0 := bt_at a0 0; clear p15; have qi15 : (0 < (a0.size : Int)) = True := eq_true (of_decide_eq_true (by first | (with_reducible assumption) | assumption)); replace q15 := eq_true q15))
              go_ret
              exact ⟨by first | rfl | (simp; done) | (simp [*]; done), by repeat (first | exact Drawn0.refl _ | apply Drawn0.step)⟩
            · rw [if_neg c16] at H
              have c16b0 : ((bt a0 0) == 45) = false := beq_eq_false_iff_ne.mpr c16
              have c16b1 : ((bt a0 0) != 45) = true := bne_iff_ne.mpr c16
              obtain ⟨ji17, hji17⟩ : ∃ j_ : Int, (wrap64 ((a0.size : Int) - 1)) = j_ := ⟨_, rfl⟩
              replace H : (if 0 ≤ (ji17) then (if (ji17) < (a0.size : Int) then (some ((bt a0 (ji17)) != 45)) else (none)) else (none)) = some r := by first | (rw [hji17] at H; exact H) | (simp only [hji17] at H ⊢; exact H)
              (try rw [hji17] at A12)
              have hji17w : (IntKind.i64.wrap ((a0.size : Int) - 1)) = ji17 := (i64_w _).trans hji17
              by_cases c18 : 0 ≤ (ji17)
              · rw [if_pos c18] at H
                have c18b0 : decide (0 ≤ (ji17)) = true := decide_eq_true c18
                clear c18
                by_cases c19 : (ji17) < (a0.size : Int)
                · rw [if_pos c19] at H
                  have c19b0 : decide ((ji17) < (a0.size : Int)) = true := decide_eq_true c19
                  clear c19
                  obtain rfl := Option.some.inj H
                  go_wp2_with (first | ((with_reducible refine gate_callee (f := 76) rfl ?_); refine goesL_ (some 32) rfl rfl Try.func76 (by kernel_rfl) rfl #[.int .i64 (a0.size : Int), .int .i64 1, .int .i64 20] rfl (by (try simp only [List.map_toArray, List.map_cons, List.map_nil]); first | done | rfl | (simp only [List.length_drop, List.length_take]; rfl)) ?_; (with_reducible refine (spec_l1In.calls (a0.size : Int) 1 20 true _ A12.out).mono ?_); rintro e w' ⟨rfl, ⟨nd, rfl⟩⟩; refine ⟨_, rfl, ?_⟩; have p15 : 0 ≤ (0 : Int) := (by omega); have q15 : 0 < a0.size := (by have : (0 : Int) < (a0.size : Int) := of_decide_eq_true (by first | (with_reducible assumption) | assumption); omega); have hx15 : ∀ h : 0 < a0.size, ((a0[0]'h).toNat : Int) = bt a0 0 := bt_at a0 0; clear p15; have qi15 : (0 < (a0.size : Int)) = True := eq_true (of_decide_eq_true (by first | (with_reducible assumption) | assumption)); replace q15 := eq_true q15; have p20 : 0 ≤ ((ji17) : Int) := of_decide_eq_true (by first | (with_reducible assumption) | assumption); have q20 : (ji17) < (a0.size : Int) := of_decide_eq_true (by first | (with_reducible assumption) | assumption); have hx20 := bt_at a0 (ji17); replace p20 := eq_true p20; replace q20 := eq_true q20))
                  go_ret
                  exact ⟨by first | rfl | (simp; done) | (simp only [← hji17] <;> (first | rfl | simp)) | (simp [*]; done), by repeat (first | exact Drawn0.refl _ | apply Drawn0.step)⟩
                · rw [if_neg c19] at H
                  exact absurd H (by simp)
              · rw [if_neg c18] at H
                exact absurd H (by simp)
          · rw [if_neg c14] at H
            exact absurd H (by simp)
        · replace c13 := Bool.eq_false_iff.mpr c13
          subst c13
          have H1 : (some false) = some r := by rw [if_neg (show ¬ (false = true) by decide)] at H; exact H
          clear H
          have H := H1
          clear H1
          obtain rfl := Option.some.inj H
          go_wp2_with (first | ((with_reducible refine gate_callee (f := 76) rfl ?_); refine goesL_ (some 32) rfl rfl Try.func76 (by kernel_rfl) rfl #[.int .i64 (a0.size : Int), .int .i64 1, .int .i64 20] rfl (by (try simp only [List.map_toArray, List.map_cons, List.map_nil]); first | done | rfl | (simp only [List.length_drop, List.length_take]; rfl)) ?_; (with_reducible refine (spec_l1In.calls (a0.size : Int) 1 20 false _ A12.out).mono ?_); rintro e w' ⟨rfl, ⟨nd, rfl⟩⟩; refine ⟨_, rfl, ?_⟩))
          go_ret
          exact ⟨by first | rfl | (simp; done) | (simp [*]; done), by repeat (first | exact Drawn0.refl _ | apply Drawn0.step)⟩

end Go.Proofs.Ytpjpnppoejnafaa.G

/- PName -/
/-
  Names and labels that are right: the program's test and the reference's.
-/
namespace Go.Proofs.Ytpjpnppoejnafaa.G
open Go.RowKit Go.Proofs.YtpjpnppoejnafaaW.PrintWords Go.Proofs.YtpjpnppoejnafaaW.PrintLast Go.Proofs.YtpjpnppoejnafaaW.PrintMore
set_option linter.unusedVariables false
set_option linter.unusedSimpArgs false
def inB (n low high : Int) : Bool := decide (low ≤ n ∧ n ≤ high)
theorem within_f (n low high : Int) : impl_within.f n low high = some (inB n low high) := by
  unfold impl_within.f inB
  by_cases h : n ≥ low
  · rw [if_pos h]; congr 1; rw [decide_eq_decide]; omega
  · rw [if_neg h]; congr 1; rw [eq_comm, decide_eq_false_iff_not]; omega
theorem l1In_f (n low high : Int) : spec_l1In.f n low high = some (inB n low high) := by
  unfold spec_l1In.f inB
  by_cases h : n ≥ low
  · rw [if_pos h]; congr 1; rw [decide_eq_decide]; omega
  · rw [if_neg h]; congr 1; rw [eq_comm, decide_eq_false_iff_not]; omega
def chB (c : Int) : Bool := inB c 97 122 || (inB c 48 57 || c == 45)
theorem bt_lo (s : ByteArray) (i : Int) : 0 ≤ bt s i := (bt_range s i).1
theorem bt_hi (s : ByteArray) (i : Int) : bt s i ≤ 255 := (bt_range s i).2
def nameB (s : ByteArray) : Bool := allN s.size (fun i => chB (bt s i)) && (inB s.size 1 20 && (bt s 0 != 45 && bt s ((s.size - 1 : Nat) : Int) != 45))
theorem inB_true {n low high : Int} (h : inB n low high = true) : low ≤ n ∧ n ≤ high := of_decide_eq_true h
theorem ev_if {α : Type} {c : Prop} [Decidable c] {g f : Nat → Option α} {r : α} (h1 : c → Ev g r) (h2 : ¬ c → Ev f r) : Ev (fun n => if c then g n else f n) r := by
  by_cases c
  · exact ev_if_pos ‹_› (h1 ‹_›)
  · exact ev_if_neg ‹_› (h2 ‹_›)
theorem nameTail (s : ByteArray) (hs : s.size ≤ 9223372036854775807) (b : Bool) (hb : b = inB s.size 1 20) :
    (if b = true then (if 0 < (s.size : Int) then (if (bt s 0) = 45 then (some false) else (if 0 ≤ (wrap64 ((s.size : Int) - 1)) then (if (wrap64 ((s.size : Int) - 1)) < (s.size : Int) then (some ((bt s (wrap64 ((s.size : Int) - 1))) != 45)) else (none)) else (none))) else (none)) else (some false)) =
      some (inB s.size 1 20 && (bt s 0 != 45 && bt s ((s.size - 1 : Nat) : Int) != 45)) := by
  subst hb
  cases hc : inB s.size 1 20 with
  | false => rfl
  | true =>
    have hi := inB_true hc
    have e : wrap64 ((s.size : Int) - 1) = ((s.size - 1 : Nat) : Int) := by rw [w64 (by omega) (by omega)]; omega
    rw [if_pos rfl, if_pos (by omega), e]
    by_cases h0 : bt s 0 = 45
    · rw [if_pos h0]; simp [h0]
    · rw [if_neg h0, if_pos (by omega), if_pos (by omega)]; simp [h0]
theorem specNameOk_ev (s : ByteArray) (hs : s.size ≤ 9223372036854775807) : Ev (fun k => spec_NameOk.f k s) (nameB s) := by
  unfold spec_NameOk.f nameB
  refine loop_all (g := fun k i => spec_NameOk.l0 k s i) s.size _ _ ?_ ?_ ?_
  · intro i hi hok r h
    have e1 := wsucc hi hs
    have l0 := bt_lo s i
    have l1 := bt_hi s i
    refine Ev.step (fun k => by rw [spec_NameOk.l0]) ?_
    simp only [e1, l1In_f, w64 (by omega : -9223372036854775808 ≤ bt s i) (by omega), Option.bind_some]
    refine ev_if_pos (by omega) (ev_if_pos (by omega) ?_)
    unfold chB at hok
    refine ev_if (fun _ => h) (fun c1 => ev_if (fun _ => h) (fun c2 => ev_if_pos ?_ h))
    simpa [c1, c2] using hok
  · intro i hi hok
    have l0 := bt_lo s i
    have l1 := bt_hi s i
    unfold chB at hok
    simp only [Bool.or_eq_false_iff, beq_eq_false_iff_ne] at hok
    refine Ev.step (fun k => by rw [spec_NameOk.l0]) ?_
    simp only [l1In_f, w64 (by omega : -9223372036854775808 ≤ bt s i) (by omega), Option.bind_some]
    exact ev_if_pos (by omega) (ev_if_pos (by omega) (ev_if_neg (by simp [hok.1]) (ev_if_neg (by simp [hok.2.1]) (ev_if_neg hok.2.2 (Ev.now _)))))
  · refine Ev.step (fun k => by rw [spec_NameOk.l0]) ?_
    refine ev_if_neg (by omega) ?_
    simp only [l1In_f, Option.bind_some]
    exact ev_now (nameTail s hs _ rfl)
theorem implNameOk_ev (s : ByteArray) (hs : s.size ≤ 9223372036854775807) : Ev (fun k => impl_NameOk.f k s) (nameB s) := by
  unfold impl_NameOk.f nameB
  refine loop_all (g := fun k i => impl_NameOk.l0 k s s.size i) s.size _ _ ?_ ?_ ?_
  · intro i hi hok r h
    have e1 := wsucc hi hs
    refine Ev.step (fun k => by rw [impl_NameOk.l0]) ?_
    simp only [e1]
    refine ev_if_pos (by omega) (ev_if_pos (by omega) (ev_if_pos (by omega) ?_))
    have hok' : (97 ≤ bt s i ∧ bt s i ≤ 122) ∨ (48 ≤ bt s i ∧ bt s i ≤ 57) ∨ bt s i = 45 := by simpa [chB, inB] using hok
    exact ev_if (fun _ => ev_if (fun _ => ev_if_pos (by omega) h) (fun _ => ev_if (fun _ => ev_if_pos (by omega) h) (fun _ => h)))
      (fun _ => ev_if (fun _ => ev_if (fun _ => ev_if_pos (by omega) h) (fun _ => ev_if (fun _ => ev_if_pos (by omega) h) (fun _ => h))) (fun _ => h))
  · intro i hi hok
    refine Ev.step (fun k => by rw [impl_NameOk.l0]) ?_
    refine ev_if_pos (by omega) (ev_if_pos (by omega) (ev_if_pos (by omega) ?_))
    have hok' : ¬ ((97 ≤ bt s i ∧ bt s i ≤ 122) ∨ (48 ≤ bt s i ∧ bt s i ≤ 57) ∨ bt s i = 45) := by
      intro hc
      have : chB (bt s i) = true := by simpa [chB, inB] using hc
      rw [this] at hok
      cases hok
    exact ev_if (fun _ => ev_if (fun _ => ev_if_neg (by omega) (Ev.now _)) (fun _ => ev_if (fun _ => ev_if_neg (by omega) (Ev.now _)) (fun _ => by omega)))
      (fun _ => ev_if (fun _ => ev_if (fun _ => ev_if_neg (by omega) (Ev.now _)) (fun _ => ev_if (fun _ => ev_if_neg (by omega) (Ev.now _)) (fun _ => by omega))) (fun _ => by omega))
  · refine Ev.step (fun k => by rw [impl_NameOk.l0]) ?_
    refine ev_if_neg (by omega) ?_
    simp only [within_f, Option.bind_some]
    exact ev_now (nameTail s hs _ rfl)
end Go.Proofs.Ytpjpnppoejnafaa.G

/- G43 -/
-- Laid by wip/g/gprint.py out of the translation, by the kit's print program. Lean checks it.
namespace Go.Proofs.Ytpjpnppoejnafaa.G
open Go.RowKit Go.Proofs.YtpjpnppoejnafaaW.PrintWords Go.Proofs.YtpjpnppoejnafaaW.PrintLast Go.Proofs.YtpjpnppoejnafaaW.PrintMore
attribute [local go_sem] max2_int min2_int max_two min_two max_three min_three max_four min_four   -- for this text's walks alone
set_option linter.unusedVariables false
set_option linter.unusedSimpArgs false

/-! ### impl_LabelsOk: function 43 -/
end Go.Proofs.Ytpjpnppoejnafaa.G

/- G35 -/
-- Laid by wip/g/gprint.py out of the translation, by the kit's print program. Lean checks it.
namespace Go.Proofs.Ytpjpnppoejnafaa.G
open Go.RowKit Go.Proofs.YtpjpnppoejnafaaW.PrintWords Go.Proofs.YtpjpnppoejnafaaW.PrintLast Go.Proofs.YtpjpnppoejnafaaW.PrintMore
attribute [local go_sem] max2_int min2_int max_two min_two max_three min_three max_four min_four   -- for this text's walks alone
set_option linter.unusedVariables false
set_option linter.unusedSimpArgs false

/-! ### spec_LabelsOk: function 35 -/
end Go.Proofs.Ytpjpnppoejnafaa.G

/- G45 -/
-- Laid by wip/g/gprint.py out of the translation, by the kit's print program. Lean checks it.
namespace Go.Proofs.Ytpjpnppoejnafaa.G
open Go.RowKit Go.Proofs.YtpjpnppoejnafaaW.PrintWords Go.Proofs.YtpjpnppoejnafaaW.PrintLast Go.Proofs.YtpjpnppoejnafaaW.PrintMore
attribute [local go_sem] max2_int min2_int max_two min_two max_three min_three max_four min_four   -- for this text's walks alone
set_option linter.unusedVariables false
set_option linter.unusedSimpArgs false

/-! ### spec_LabelGet: function 45 -/
end Go.Proofs.Ytpjpnppoejnafaa.G
