/-
  Small words beside the print's: lists searched by a test that may lack an answer, rows that stand below a growing world.
-/
import Derived.Test.YtpjpnppoejnafaaWMore
import Derived.Test.YtpjpnppoejnafaaWN
import Derived.Test.YtpjpnppoejnafaaWApart
import Derived.Lib.Hide
import Derived.Lib.SliceRun
import Derived.WalkKit
import Derived.IntWalk
import Derived.Deep.LoopGhost
import Derived.WalkLawsBesides
namespace Go.Proofs.Ytpjpnppoejnafaa.G
open Go.RowKit Go.Proofs.YtpjpnppoejnafaaW.PrintWords Go.Proofs.YtpjpnppoejnafaaW.PrintLast Go.Proofs.YtpjpnppoejnafaaW.PrintMore
set_option linter.unusedVariables false

/-- The place of the first for which p says yes, counted from k on; -1 without one. -/
def idxO {α : Type} (p : α → Option Bool) : List α → Nat → Option Int
  | [], _ => some (-1)
  | x :: xs, k => (p x).bind fun b => if b then some (k : Int) else idxO p xs (k + 1)
theorem idxO_step {α : Type} {p : α → Option Bool} {xs : List α} {k : Nat} {r : Int} (hk : k < xs.length) (h : idxO p (xs.drop k) k = some r) :
    ∃ b, p xs[k] = some b ∧ (b = true → r = k) ∧ (b = false → idxO p (xs.drop (k + 1)) (k + 1) = some r) := by
  rw [List.drop_eq_getElem_cons hk, idxO] at h
  cases hp : p xs[k] with
  | none => rw [hp] at h; cases h
  | some b =>
    rw [hp] at h
    refine ⟨b, rfl, ?_, ?_⟩
    · rintro rfl; simpa using h.symm
    · rintro rfl; simpa using h
theorem idxO_end {α : Type} {p : α → Option Bool} {xs : List α} {r : Int} (h : idxO p (xs.drop xs.length) xs.length = some r) : r = -1 := by
  rw [List.drop_length, idxO] at h
  exact (Option.some.inj h).symm
theorem getD_at {α : Type} {xs : List α} {k : Nat} (hk : k < xs.length) (z : α) : xs.getD k z = xs[k] := by
  rw [List.getD_eq_getElem?_getD, List.getElem?_eq_getElem hk]; rfl
theorem below_trans {w w1 w2 : World} (h : Below w.heap.size w w1) (k : Below w1.heap.size w1 w2) : Below w.heap.size w w2 := below_then h h.size k
theorem hid_below {w w1 w2 : World} (h : Hid (Below w.heap.size w w1)) (k : Below w1.heap.size w1 w2) : Hid (Below w.heap.size w w2) := below_trans h.out k
section
variable {α : Type} {d : Kd α} {e base n c : Nat} {ok : Nat → Prop} {w : World} {A : Option Addr} {xs : List α}
/-- A row of the call's own with an element lies at the head of a block that is known whole. -/
theorem R_block (h : d.R e w base ok (.slice A n c) xs) (hp : 0 < xs.length) :
    ∃ g cur, A = some ⟨g, 0, none⟩ ∧ n = xs.length ∧ base ≤ g ∧ w.heap[g]? = some (.cells cur e (0, 0)) ∧ xs.length ≤ c ∧ c ≤ maxLen ∧ cur.size = c * d.sz ∧ ok g ∧
      Reps (d.M w base (fun k => ok k ∧ k ≠ g)) d.sz xs (cur.toList.take (xs.length * d.sz)) := by
  obtain ⟨h0, inner, ⟨hl, hv⟩, hr⟩ := h
  rcases hv with ⟨_, h1⟩ | ⟨g, cap, cur, hv, hb, hh, h1, h2, h3, h4⟩
  · omega
  · simp only [Value.slice.injEq] at hv
    obtain ⟨rfl, rfl, rfl⟩ := hv
    refine ⟨g, cur, rfl, rfl, hb, hh, h1, h2, h3, h0 g rfl, ?_⟩
    rw [h4]
    exact hr.imp_ (fun _ _ hp => d.M_mono (fun k hk => ⟨hk.1, fun e => hk.2 (by rw [e]; rfl)⟩) hp)
theorem R_of_block {g : Nat} {cur : Array Value} (hb : base ≤ g) (hh : w.heap[g]? = some (.cells cur e (0, 0))) (h1 : xs.length ≤ c) (h2 : c ≤ maxLen) (h3 : cur.size = c * d.sz) (hok : ok g)
    (hr : Reps (d.M w base (fun k => ok k ∧ k ≠ g)) d.sz xs (cur.toList.take (xs.length * d.sz))) : d.R e w base ok (.slice (some ⟨g, 0, none⟩) xs.length c) xs := by
  refine ⟨fun k hk => ?_, _, ⟨hr.1, .inr ⟨g, c, cur, rfl, hb, hh, h1, h2, h3, rfl⟩⟩, hr.imp_ (fun _ _ hp => d.M_mono (fun k hk => ⟨hk.1, fun e => hk.2 ?_⟩) hp)⟩
  · have : g = k := by simpa [Value.ownBlock] using hk
    exact this ▸ hok
  · have : k = g := by simpa [Value.ownBlock] using e
    exact this
end

/-! ### slices.DeleteFunc: what it leaves, and the state of its loop -/
def delO {α : Type} (p : α → Option Bool) : List α → Option (List α)
  | [] => some []
  | x :: xs => (p x).bind fun b => (delO p xs).bind fun ys => some (if b then ys else x :: ys)
theorem delO_cons {α : Type} {p : α → Option Bool} {x : α} {xs r : List α} (h : delO p (x :: xs) = some r) : ∃ b ys, p x = some b ∧ delO p xs = some ys ∧ r = if b then ys else x :: ys := by
  rw [delO] at h
  cases hp : p x with
  | none => rw [hp] at h; cases h
  | some b =>
    rw [hp, Option.bind_some] at h
    cases hy : delO p xs with
    | none => rw [hy] at h; cases h
    | some ys => rw [hy, Option.bind_some] at h; exact ⟨b, ys, rfl, rfl, (Option.some.inj h).symm⟩
theorem delO_idx {α : Type} {p : α → Option Bool} : ∀ (l : List α) (k : Nat) (r : List α), delO p l = some r →
    ∃ i, idxO p l k = some i ∧ ((i = -1 ∧ r = l) ∨ ∃ m : Nat, i = ((k + m : Nat) : Int) ∧ m < l.length ∧ ∃ r2, delO p (l.drop (m + 1)) = some r2 ∧ r = l.take m ++ r2)
  | [], k, r, h => ⟨-1, rfl, .inl ⟨rfl, by rw [delO] at h; exact (Option.some.inj h).symm⟩⟩
  | x :: xs, k, r, h => by
    obtain ⟨b, ys, hp, hy, rfl⟩ := delO_cons h
    cases b with
    | true => exact ⟨k, by rw [idxO, hp]; rfl, .inr ⟨0, by simp, by simp, ys, by simpa using hy, by simp⟩⟩
    | false =>
      obtain ⟨i, hi, hc⟩ := delO_idx xs (k + 1) ys hy
      refine ⟨i, by rw [idxO, hp]; exact hi, ?_⟩
      rcases hc with ⟨rfl, rfl⟩ | ⟨m, rfl, hm, r2, hr, rfl⟩
      · exact .inl ⟨rfl, rfl⟩
      · exact .inr ⟨m + 1, by rw [Nat.add_assoc, Nat.add_comm 1 m], by simpa using hm, r2, by simpa using hr, by simp⟩

structure DelSt {α : Type} (d : Kd α) (e : Nat) (p : α → Option Bool) (l0 r : List α) (ok : Nat → Prop) (w0 w : World) (g : Nat) (cur : Array Value) (m j : Nat) (wr : World) : Prop where
  st : ∃ (cur' : Array Value) (ys r2 : List α), ys.length = m ∧ wr.heap[g]? = some (.cells cur' e (0, 0)) ∧ cur'.size = cur.size ∧ cur'.toList.drop (j * d.sz) = cur.toList.drop (j * d.sz) ∧
    Reps (d.M wr w0.heap.size (fun k => ok k ∧ k ≠ g)) d.sz ys (cur'.toList.take (m * d.sz)) ∧ delO p (l0.drop j) = some r2 ∧ r = ys ++ r2
  kept : Kept w wr (fun k => k = g)
  below : Below w0.heap.size w0 wr
  pos : m < j
section
variable {α : Type} {d : Kd α} {e c : Nat} {p : α → Option Bool} {l0 r : List α} {ok : Nat → Prop} {w0 w wr W : World} {g m j : Nat} {cur : Array Value}
theorem reps_move {R R' : α → List Value → Prop} {size : Nat} {ps : List α} {cs : List Value} (h : Reps R size ps cs) (hR : ∀ p c, R p c → R' p c) : Reps R' size ps cs := h.imp_ hR
theorem reps_take {R : α → List Value → Prop} {size : Nat} {ps : List α} {cs : List Value} (h : Reps R size ps cs) (k : Nat) (hk : k ≤ ps.length) : Reps R size (ps.take k) (cs.take (k * size)) := by
  have hle : k * size ≤ ps.length * size := Nat.mul_le_mul_right _ hk
  refine ⟨by rw [List.length_take, List.length_take, h.1, Nat.min_eq_left hk, Nat.min_eq_left hle], fun j q hq => ?_⟩
  have hj : j < k := by
    have := (List.getElem?_eq_some_iff.1 hq).1
    rw [List.length_take] at this
    omega
  rw [List.getElem?_take, if_pos hj] at hq
  have h1 : j * size + size ≤ k * size := by rw [← Nat.succ_mul]; exact Nat.mul_le_mul_right _ hj
  have := h.2 j q hq
  rw [List.drop_take, List.take_take, Nat.min_eq_left (by omega)]
  exact this
theorem M_below' {base : Nat} {x : α} {cs : List Value} {w w1 : World} (h : d.M w base ok x cs) (hb : Below w.heap.size w w1) : d.M w1 base ok x cs := Kd.M_below h hb
theorem del_start (hg : w0.heap.size ≤ g) (hh : w.heap[g]? = some (.cells cur e (0, 0))) (hr : Reps (d.M w w0.heap.size (fun k => ok k ∧ k ≠ g)) d.sz l0 (cur.toList.take (l0.length * d.sz)))
    (hB : Below w0.heap.size w0 w) (hb : Below w.heap.size w wr) {r2 : List α} (hm : m < l0.length) (h2 : delO p (l0.drop (m + 1)) = some r2) (hrr : r = l0.take m ++ r2) : DelSt d e p l0 r ok w0 w g cur m (m + 1) wr := by
  refine ⟨⟨cur, l0.take m, r2, by rw [List.length_take]; omega, (hb.block g (blk_lt hh)).trans hh, rfl, rfl, ?_, h2, hrr⟩, Kept.of_below hb _, below_then hB hB.size hb, by omega⟩
  have h3 := reps_take hr m (by omega)
  rw [List.take_take, Nat.min_eq_left (Nat.mul_le_mul_right _ (by omega))] at h3
  exact h3.imp_ (fun _ _ hp => Kd.M_below hp hb)
/-- Element j, not yet read: its cells. -/
theorem del_read (hh : w.heap[g]? = some (.cells cur e (0, 0))) (hs : cur.size = c * d.sz) (hl : l0.length ≤ c) (hr : Reps (d.M w w0.heap.size (fun k => ok k ∧ k ≠ g)) d.sz l0 (cur.toList.take (l0.length * d.sz)))
    (h : DelSt d e p l0 r ok w0 w g cur m j wr) (hj : j < l0.length) :
    ∃ (cs : List Value) (b : Bool), cs.length = d.sz ∧ p l0[j] = some b ∧ d.M wr w0.heap.size (fun k => ok k ∧ k ≠ g) l0[j] cs ∧ (∀ t u, cs[t]? = some u → wr.cell? ⟨g, j * d.sz + t, none⟩ = some u) ∧ (∀ t, wr.frozen? ⟨g, t, none⟩ = false) ∧ (∀ t, t < c * d.sz → ∃ u, wr.cell? ⟨g, t, none⟩ = some u) := by
  obtain ⟨cur', ys, r2, hy, hh', hs', hd, hR, hdel, hrr⟩ := h.st
  have hjl : j * d.sz + d.sz ≤ l0.length * d.sz := by rw [← Nat.succ_mul]; exact Nat.mul_le_mul_right _ hj
  have hcl : l0.length * d.sz ≤ c * d.sz := Nat.mul_le_mul_right _ hl
  rw [List.drop_eq_getElem_cons hj] at hdel
  obtain ⟨b, ys', hp, _, _⟩ := delO_cons hdel
  have hM := hr.2 j _ (List.getElem?_eq_getElem hj)
  rw [List.drop_take, List.take_take, Nat.min_eq_left (by omega)] at hM
  refine ⟨(cur.toList.drop (j * d.sz)).take d.sz, b, ?_, hp, ?_, ?_, ?_, ?_⟩
  · rw [List.length_take, List.length_drop, Array.length_toList]; omega
  · exact Kd.M_kept hM h.kept (fun k hk => hk.2)
  · intro t u ht
    have htl := (List.getElem?_eq_some_iff.1 ht).1
    rw [List.length_take] at htl
    rw [← hd, List.getElem?_take, if_pos (by omega), List.getElem?_drop, Array.getElem?_toList] at ht
    rw [blk_cell hh', ht]
  · intro t; exact blk_frozen hh' t
  · intro t ht
    exact ⟨cur'[t]'(by omega), by rw [blk_cell hh']; exact Array.getElem?_eq_getElem (by omega)⟩
theorem del_skip (h : DelSt d e p l0 r ok w0 w g cur m j wr) (hj : j < l0.length) (hp : p l0[j] = some true) (hb : Below wr.heap.size wr W) : DelSt d e p l0 r ok w0 w g cur m (j + 1) W := by
  obtain ⟨cur', ys, r2, hy, hh', hs', hd, hR, hdel, hrr⟩ := h.st
  rw [List.drop_eq_getElem_cons hj] at hdel
  obtain ⟨b, ys', hp', hdel', he⟩ := delO_cons hdel
  rw [hp] at hp'
  cases hp'
  refine ⟨⟨cur', ys, r2, hy, (hb.block g (blk_lt hh')).trans hh', hs', ?_, hR.imp_ (fun _ _ hq => Kd.M_below hq hb), ?_, hrr⟩, h.kept.below hb, below_then h.below h.below.size hb, by have := h.pos; omega⟩
  · have := congrArg (List.drop d.sz) hd
    rw [List.drop_drop, List.drop_drop] at this
    rw [Nat.succ_mul]; exact this
  · rw [hdel', he]; rfl
theorem del_keep (hg : w0.heap.size ≤ g) (hs : cur.size = c * d.sz) (hl : l0.length ≤ c) (h : DelSt d e p l0 r ok w0 w g cur m j wr) (hj : j < l0.length) (hp : p l0[j] = some false) (hb : Below wr.heap.size wr W)
    {cs : List Value} (hcs : cs.length = d.sz) (hM : d.M wr w0.heap.size (fun k => ok k ∧ k ≠ g) l0[j] cs) : DelSt d e p l0 r ok w0 w g cur (m + 1) (j + 1) (W.setCells g (m * d.sz) cs) := by
  obtain ⟨cur', ys, r2, hy, hh', hs', hd, hR, hdel, hrr⟩ := h.st
  have hmj := h.pos
  rw [List.drop_eq_getElem_cons hj] at hdel
  obtain ⟨b, ys', hp', hdel', he⟩ := delO_cons hdel
  rw [hp] at hp'
  cases hp'
  have hjl : j * d.sz + d.sz ≤ l0.length * d.sz := by rw [← Nat.succ_mul]; exact Nat.mul_le_mul_right _ hj
  have hcl : l0.length * d.sz ≤ c * d.sz := Nat.mul_le_mul_right _ hl
  have hml : m * d.sz + d.sz ≤ j * d.sz := by rw [← Nat.succ_mul]; exact Nat.mul_le_mul_right _ hmj
  have hbk := (hb.block g (blk_lt hh')).trans hh'
  obtain ⟨cur2, h2, h2s, h2l⟩ := setCells_row cs (m * d.sz) W cur' hbk (by omega)
  have far : ∀ k, k ≠ g → k < wr.heap.size → (W.setCells g (m * d.sz) cs).heap[k]? = wr.heap[k]? := fun k hk hlt => (setCells_far cs _ k hk).trans (hb.block k hlt)
  obtain ⟨s1, s2, s3, s4⟩ := setCells_same g cs (m * d.sz) W
  have hlen : cur'.toList.length = cur'.size := Array.length_toList
  have hmc : m * d.sz ≤ cur'.size := by omega
  have hsj : (j + 1) * d.sz = j * d.sz + d.sz := Nat.succ_mul j d.sz
  have mv : ∀ q cq, d.M wr w0.heap.size (fun k => ok k ∧ k ≠ g) q cq → d.M (W.setCells g (m * d.sz) cs) w0.heap.size (fun k => ok k ∧ k ≠ g) q cq := fun q cq hq => Kd.M_step hq (fun k hk hlt => far k hk.2 hlt)
  refine ⟨⟨cur2, ys ++ [l0[j]], ys', by simp [hy], h2, h2s.trans hs', ?_, ?_, hdel', by rw [hrr, he]; simp⟩, ?_, ?_, by omega⟩
  · rw [h2l, List.drop_append, List.drop_of_length_le (by rw [List.length_append, List.length_take, hcs, hlen, Nat.min_eq_left hmc]; omega), List.nil_append, List.length_append, List.length_take, hcs, List.drop_drop]
    have := congrArg (List.drop d.sz) hd
    rw [List.drop_drop, List.drop_drop] at this
    rw [Nat.succ_mul, ← this]
    congr 1
    rw [hlen]; omega
  · rw [h2l, List.append_assoc, Nat.succ_mul, List.take_append, List.take_of_length_le (by rw [List.length_take]; omega), List.length_take, hlen, Nat.min_eq_left (by omega), Nat.add_sub_cancel_left, List.take_append_of_le_length (by omega), List.take_of_length_le (l := cs) (by omega)]
    exact (hR.imp_ mv).snoc (mv _ _ hM) hcs
  · refine (h.kept.below hb).then_ (S2 := fun k => k = g) ⟨by omega, fun i _ hn => setCells_far cs _ i hn⟩ (fun k hk => .inl hk)
  · have hB := below_then h.below h.below.size hb
    exact ⟨by rw [s1]; exact hB.os, by rw [s2]; exact hB.tape, by rw [s3]; exact hB.output, by rw [s4]; exact hB.size, fun k hk => by rw [setCells_far cs _ k (by omega)]; exact hB.block k hk⟩
theorem del_end (hg : w0.heap.size ≤ g) (hs : cur.size = c * d.sz) (hc : c ≤ maxLen) (hl : l0.length ≤ c) (hok : ok g) (h : DelSt d e p l0 r ok w0 w g cur m l0.length wr) {zs : List Value} (hz : m * d.sz + zs.length ≤ c * d.sz) :
    d.R e (wr.setCells g (m * d.sz) zs) w0.heap.size ok (.slice (some ⟨g, 0, none⟩) m c) r ∧ Below w0.heap.size w0 (wr.setCells g (m * d.sz) zs) ∧ Kept w (wr.setCells g (m * d.sz) zs) (fun k => k = g) := by
  obtain ⟨cur', ys, r2, hy, hh', hs', hd, hR, hdel, hrr⟩ := h.st
  have hml := h.pos
  rw [List.drop_length, delO] at hdel
  cases hdel
  rw [List.append_nil] at hrr
  subst hrr
  obtain ⟨cur2, h2, h2s, h2l⟩ := setCells_row zs (m * d.sz) wr cur' hh' (by omega)
  obtain ⟨s1, s2, s3, s4⟩ := setCells_same g zs (m * d.sz) wr
  have hlen : cur'.toList.length = cur'.size := Array.length_toList
  refine ⟨?_, ?_, ?_⟩
  · subst hy
    refine R_of_block hg h2 (by omega) hc (by omega) hok ?_
    rw [h2l, List.append_assoc, List.take_append_of_le_length (by rw [List.length_take]; omega), List.take_take, Nat.min_self]
    exact hR.imp_ (fun q cq hq => Kd.M_step hq (fun k hk _ => setCells_far zs _ k hk.2))
  · have hB := h.below
    exact ⟨by rw [s1]; exact hB.os, by rw [s2]; exact hB.tape, by rw [s3]; exact hB.output, by rw [s4]; exact hB.size, fun k hk => by rw [setCells_far zs _ k (by omega)]; exact hB.block k hk⟩
  · exact h.kept.then_ (S2 := fun k => k = g) ⟨by omega, fun i _ hn => setCells_far zs _ i hn⟩ (fun k hk => .inl hk)
end
/-- 'clear(s)', s a slice of n > 0 elements of whatever cells. -/
theorem run_clear_cells {P : Program} (w : World) (t e ty : TypeId) (z : Value) (ht : P.underlying t = some (.slice e)) (hv : ∀ w, (zeroValue e).run P w = .ok z w) (h1 : ∀ u ∈ z.cells, u.oneCell' = true) (b o n c : Nat) (hn : 0 < n)
    (hc : ∀ j, j < n * z.cells.size → (w.cell? ⟨b, o + j, none⟩).isSome = true) (hf : ∀ j, w.frozen? ⟨b, j, none⟩ = false) :
    (Builtin.clear_ #[t] ty #[.slice (some ⟨b, o, none⟩) n c]).run P w = .ok (.tuple #[]) (w.setCells b o (Builtin.zeroCells z.cells n).toList) := by
  have hl : (Builtin.zeroCells z.cells n).toList.length = n * z.cells.size := by simp [Builtin.zeroCells]
  have hst := run_storeCells_cells (P := P) b o (Builtin.zeroCells z.cells n).toList 0 w (by rw [hl]; intro j hj; simpa using hc j hj) (by intro j _; simpa using hf (o + j)) (by
    intro v hv'
    simp only [Builtin.zeroCells, Array.toList_map, Array.toList_range, List.mem_map, List.mem_range] at hv'
    obtain ⟨i, hi, rfl⟩ := hv'
    have hpos : 0 < z.cells.size := by
      rcases Nat.eq_zero_or_pos z.cells.size with h | h
      · rw [h] at hi; omega
      · exact h
    rw [getElem!_pos z.cells (i % z.cells.size) (Nat.mod_lt _ hpos)]
    exact h1 _ (Array.getElem_mem _))
  simp only [Nat.add_zero] at hst
  obtain ⟨m, rfl⟩ : ∃ m, n = m + 1 := ⟨n - 1, by omega⟩
  simp [Builtin.clear_, run_underlying ht, hv, hst]
theorem idxO_mono {α : Type} {p p' : α → Option Bool} (h : ∀ x, LeO (p x) (p' x)) : ∀ (l : List α) (k : Nat), LeO (idxO p l k) (idxO p' l k)
  | [], _ => LeO.refl _
  | x :: xs, k => by
    rw [idxO, idxO]
    exact LeO.bind (h x) (fun b => LeO.ite (LeO.refl _) (idxO_mono h xs (k + 1)))
theorem delO_mono {α : Type} {p p' : α → Option Bool} (h : ∀ x, LeO (p x) (p' x)) : ∀ (l : List α), LeO (delO p l) (delO p' l)
  | [] => LeO.refl _
  | x :: xs => by
    rw [delO, delO]
    exact LeO.bind (h x) (fun b => LeO.bind (delO_mono h xs) (fun _ => LeO.refl _))
theorem bind_some' {α β : Type} {o : Option α} {f : α → Option β} {r : β} (h : o.bind f = some r) : ∃ a, o = some a ∧ f a = some r := Option.bind_eq_some_iff.1 h
/-- A row of one-cell elements with an element: where its cells are. -/
theorem C_cells {α : Type} {f : α → Value} {dflt : α} {w : World} {A : Option Addr} {n : Nat} {xs : List α} (h : ReadsOf f dflt w A n xs) (h0 : 0 < xs.length) :
    ∃ bk o, A = some ⟨bk, o, none⟩ ∧ bk < w.heap.size ∧ ∀ (j : Nat) x, xs[j]? = some x → w.cell? ⟨bk, o + j, none⟩ = some (f x) := by
  obtain ⟨hl, _, hh⟩ := h
  subst hl
  obtain ⟨ad, rfl, hc⟩ := hh h0
  have h1 := hc 0 h0
  obtain ⟨bk, o, sp⟩ := ad
  have hsp : sp = none := by
    have h2 : w.cell? ⟨bk, o, sp⟩ = some (f (xs.getD 0 dflt)) := by simpa [Addr.add] using h1
    unfold World.cell? at h2
    simp only at h2
    split at h2
    · cases sp with
      | none => rfl
      | some z => simp at h2
    · simp at h2
  subst hsp
  refine ⟨bk, o, rfl, World.block_lt_of_cell? w ⟨bk, o, none⟩ (by simpa [Addr.add] using h1), fun j x hj => ?_⟩
  have hjl := (List.getElem?_eq_some_iff.1 hj).1
  have h3 := hc j hjl
  have ha : (⟨bk, o, none⟩ : Addr).add j = ⟨bk, o + j, none⟩ := by unfold Addr.add; split <;> simp_all
  rw [ha, List.getD_eq_getElem?_getD, hj] at h3
  exact h3
end Go.Proofs.Ytpjpnppoejnafaa.G
