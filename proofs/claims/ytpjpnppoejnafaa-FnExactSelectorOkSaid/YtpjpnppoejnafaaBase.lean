/-
  Data of the program as one tree type 'D', and what it means that cells of a world read as such data ('rd'), with the list of blocks that the reading goes through.
  Plain lemmas: frames, single elements, growth.
-/
import Derived.WalkKit
import Derived.KernelRfl
import Derived.RowKit3
import Derived.Lib.Hide
import Derived.Deep.Draws
import Derived.WideShapes
import Derived.Deep.LoopGhost
import Derived.Deep.QuietTactic
import Derived.BigQuiet
import Derived.Handy
import Derived.WalkLawsBesides
import Derived.Deep.RegionHeld3
import Derived.Deep.DrawnRows
import Derived.Deep.DeepCutAuto
import Derived.BigRegion
namespace Go.Proofs.Ytpjpnppoejnafaa
open Go.RowKit

inductive D where
  | int (n : Int)
  | bool (b : Bool)
  | str (s : ByteArray)
  | agg (ds : List D)
  | sl (sz : Nat) (ds : List D)

mutual
def width : D → Nat
  | .int _ => 1
  | .bool _ => 1
  | .str _ => 1
  | .agg ds => widthL ds
  | .sl _ _ => 1
def widthL : List D → Nat
  | [] => 0
  | d :: ds => width d + widthL ds
end

mutual
def rd (o : Bool) (w : World) : D → List Value → List Nat → Prop
  | .int n, cs, F => cs = [.int .i64 n] ∧ F = [] ∧ -9223372036854775808 ≤ n ∧ n ≤ 9223372036854775807
  | .bool b, cs, F => cs = [.bool b] ∧ F = []
  | .str s, cs, F => cs = [.string s] ∧ F = [] ∧ s.size ≤ 9223372036854775807
  | .agg ds, cs, F => rdL o w ds cs F
  | .sl sz ds, cs, F => ∃ A c, cs = [.slice A ds.length c] ∧ ds.length ≤ c ∧ c ≤ 9223372036854775807 ∧
      ((ds.length = 0 ∧ F = []) ∨ ∃ b off cells e fr xs F', A = some ⟨b, off, none⟩ ∧ w.heap[b]? = some (.cells cells e fr) ∧ (o = true → fr = (0, 0)) ∧
        F = b :: F' ∧ xs.length = ds.length * sz ∧ (cells.toList.drop off).take xs.length = xs ∧ rdL o w ds xs F')
def rdL (o : Bool) (w : World) : List D → List Value → List Nat → Prop
  | [], cs, F => cs = [] ∧ F = []
  | d :: ds, cs, F => ∃ c1 c2 F1 F2, cs = c1 ++ c2 ∧ F = F1 ++ F2 ∧ rd o w d c1 F1 ∧ rdL o w ds c2 F2
end

mutual
theorem rd_width {o : Bool} {w : World} : ∀ (d : D) (cs : List Value) (F : List Nat), rd o w d cs F → cs.length = width d
  | .int _, _, _, h => by rw [rd] at h; simp [h.1, width]
  | .bool _, _, _, h => by rw [rd] at h; simp [h.1, width]
  | .str _, _, _, h => by rw [rd] at h; simp [h.1, width]
  | .agg ds, cs, F, h => by rw [rd] at h; rw [width]; exact rdL_width ds cs F h
  | .sl _ _, _, _, h => by rw [rd] at h; obtain ⟨A, c, h, _⟩ := h; simp [h, width]
theorem rdL_width {o : Bool} {w : World} : ∀ (ds : List D) (cs : List Value) (F : List Nat), rdL o w ds cs F → cs.length = widthL ds
  | [], _, _, h => by rw [rdL] at h; simp [h.1, widthL]
  | d :: ds, cs, F, h => by
    rw [rdL] at h
    obtain ⟨c1, c2, F1, F2, rfl, rfl, h1, h2⟩ := h
    rw [widthL, List.length_append, rd_width d c1 F1 h1, rdL_width ds c2 F2 h2]
end

mutual
/-- The frame: what is read through blocks that are as they were reads as it did. -/
theorem rd_frame {o : Bool} {w w' : World} : ∀ (d : D) (cs : List Value) (F : List Nat), rd o w d cs F → (∀ b, b ∈ F → w'.heap[b]? = w.heap[b]?) → rd o w' d cs F
  | .int _, _, _, h, _ => by rw [rd] at h ⊢; exact h
  | .bool _, _, _, h, _ => by rw [rd] at h ⊢; exact h
  | .str _, _, _, h, _ => by rw [rd] at h ⊢; exact h
  | .agg ds, cs, F, h, hf => by rw [rd] at h ⊢; exact rdL_frame ds cs F h hf
  | .sl sz ds, cs, F, h, hf => by
    rw [rd] at h ⊢
    obtain ⟨A, c, h1, h2, h3, h4⟩ := h
    refine ⟨A, c, h1, h2, h3, ?_⟩
    rcases h4 with h4 | ⟨b, off, cells, e, fr, xs, F', hA, hb, hfr, rfl, hl, hx, hr⟩
    · exact .inl h4
    · exact .inr ⟨b, off, cells, e, fr, xs, F', hA, (hf b (by simp)).trans hb, hfr, rfl, hl, hx, rdL_frame ds xs F' hr (fun b' h' => hf b' (by simp [h']))⟩
theorem rdL_frame {o : Bool} {w w' : World} : ∀ (ds : List D) (cs : List Value) (F : List Nat), rdL o w ds cs F → (∀ b, b ∈ F → w'.heap[b]? = w.heap[b]?) → rdL o w' ds cs F
  | [], _, _, h, _ => by rw [rdL] at h ⊢; exact h
  | d :: ds, cs, F, h, hf => by
    rw [rdL] at h ⊢
    obtain ⟨c1, c2, F1, F2, rfl, rfl, h1, h2⟩ := h
    exact ⟨c1, c2, F1, F2, rfl, rfl, rd_frame d c1 F1 h1 (fun b hb => hf b (by simp [hb])), rdL_frame ds c2 F2 h2 (fun b hb => hf b (by simp [hb]))⟩
end

mutual
theorem rd_lt {o : Bool} {w : World} : ∀ (d : D) (cs : List Value) (F : List Nat), rd o w d cs F → ∀ b, b ∈ F → b < w.heap.size
  | .int _, _, _, h, b, hb => by rw [rd] at h; simp [h.2.1] at hb
  | .bool _, _, _, h, b, hb => by rw [rd] at h; simp [h.2] at hb
  | .str _, _, _, h, b, hb => by rw [rd] at h; simp [h.2.1] at hb
  | .agg ds, cs, F, h, b, hb => by rw [rd] at h; exact rdL_lt ds cs F h b hb
  | .sl sz ds, cs, F, h, b, hb => by
    rw [rd] at h
    obtain ⟨A, c, h1, h2, h3, h4⟩ := h
    rcases h4 with h4 | ⟨b', off, cells, e, fr, xs, F', hA, hb', hfr, rfl, hl, hx, hr⟩
    · simp [h4.2] at hb
    · rcases List.mem_cons.1 hb with rfl | hb
      · exact (Array.getElem?_eq_some_iff.1 hb').1
      · exact rdL_lt ds xs F' hr b hb
theorem rdL_lt {o : Bool} {w : World} : ∀ (ds : List D) (cs : List Value) (F : List Nat), rdL o w ds cs F → ∀ b, b ∈ F → b < w.heap.size
  | [], _, _, h, b, hb => by rw [rdL] at h; simp [h.2] at hb
  | d :: ds, cs, F, h, b, hb => by
    rw [rdL] at h
    obtain ⟨c1, c2, F1, F2, rfl, rfl, h1, h2⟩ := h
    rcases List.mem_append.1 hb with hb | hb
    · exact rd_lt d c1 F1 h1 b hb
    · exact rdL_lt ds c2 F2 h2 b hb
end

mutual
theorem rd_weak {o : Bool} {w : World} : ∀ (d : D) (cs : List Value) (F : List Nat), rd o w d cs F → rd false w d cs F
  | .int _, _, _, h => by rw [rd] at h ⊢; exact h
  | .bool _, _, _, h => by rw [rd] at h ⊢; exact h
  | .str _, _, _, h => by rw [rd] at h ⊢; exact h
  | .agg ds, cs, F, h => by rw [rd] at h ⊢; exact rdL_weak ds cs F h
  | .sl sz ds, cs, F, h => by
    rw [rd] at h ⊢
    obtain ⟨A, c, h1, h2, h3, h4⟩ := h
    refine ⟨A, c, h1, h2, h3, ?_⟩
    rcases h4 with h4 | ⟨b, off, cells, e, fr, xs, F', hA, hb, hfr, rfl, hl, hx, hr⟩
    · exact .inl h4
    · exact .inr ⟨b, off, cells, e, fr, xs, F', hA, hb, (by simp), rfl, hl, hx, rdL_weak ds xs F' hr⟩
theorem rdL_weak {o : Bool} {w : World} : ∀ (ds : List D) (cs : List Value) (F : List Nat), rdL o w ds cs F → rdL false w ds cs F
  | [], _, _, h => by rw [rdL] at h ⊢; exact h
  | d :: ds, cs, F, h => by
    rw [rdL] at h ⊢
    obtain ⟨c1, c2, F1, F2, rfl, rfl, h1, h2⟩ := h
    exact ⟨c1, c2, F1, F2, rfl, rfl, rd_weak d c1 F1 h1, rdL_weak ds c2 F2 h2⟩
end

/-- Growth: everything that was there is as it was. -/
theorem rd_below {o : Bool} {w w' : World} {d : D} {cs : List Value} {F : List Nat} (h : rd o w d cs F) (hb : Below w.heap.size w w') : rd o w' d cs F :=
  rd_frame d cs F h (fun b hF => hb.block b (rd_lt d cs F h b hF))
theorem rdL_below {o : Bool} {w w' : World} {ds : List D} {cs : List Value} {F : List Nat} (h : rdL o w ds cs F) (hb : Below w.heap.size w w') : rdL o w' ds cs F :=
  rdL_frame ds cs F h (fun b hF => hb.block b (rdL_lt ds cs F h b hF))

theorem rdL_append {o : Bool} {w : World} : ∀ {us vs : List D} {c1 c2 : List Value} {F1 F2 : List Nat}, rdL o w us c1 F1 → rdL o w vs c2 F2 → rdL o w (us ++ vs) (c1 ++ c2) (F1 ++ F2)
  | [], vs, c1, c2, F1, F2, h1, h2 => by
    rw [rdL] at h1
    obtain ⟨rfl, rfl⟩ := h1
    exact h2
  | a :: us, vs, c1, c2, F1, F2, h1, h2 => by
    rw [rdL] at h1
    obtain ⟨x1, x2, G1, G2, rfl, rfl, ha, hus⟩ := h1
    rw [List.cons_append, rdL]
    exact ⟨x1, x2 ++ c2, G1, G2 ++ F2, by simp, by simp, ha, rdL_append hus h2⟩

theorem rdL_one {o : Bool} {w : World} {d : D} {cs : List Value} {F : List Nat} (h : rd o w d cs F) : rdL o w [d] cs F := by
  rw [rdL]
  exact ⟨cs, [], F, [], by simp, by simp, h, by rw [rdL]; exact ⟨rfl, rfl⟩⟩

theorem rdL_split {o : Bool} {w : World} : ∀ {us vs : List D} {cs : List Value} {F : List Nat}, rdL o w (us ++ vs) cs F →
    ∃ c1 c2 F1 F2, cs = c1 ++ c2 ∧ F = F1 ++ F2 ∧ rdL o w us c1 F1 ∧ rdL o w vs c2 F2
  | [], vs, cs, F, h => ⟨[], cs, [], F, rfl, rfl, by rw [rdL]; exact ⟨rfl, rfl⟩, h⟩
  | a :: us, vs, cs, F, h => by
    rw [List.cons_append, rdL] at h
    obtain ⟨x1, x2, G1, G2, rfl, rfl, ha, hr⟩ := h
    obtain ⟨c1, c2, F1, F2, rfl, rfl, h1, h2⟩ := rdL_split hr
    exact ⟨x1 ++ c1, c2, G1 ++ F1, F2, by simp, by simp, by rw [rdL]; exact ⟨x1, c1, G1, F1, rfl, rfl, ha, h1⟩, h2⟩

theorem widthL_const {sz : Nat} : ∀ {ds : List D}, (∀ d, d ∈ ds → width d = sz) → widthL ds = ds.length * sz
  | [], _ => by simp [widthL]
  | d :: ds, h => by
    rw [widthL, h d (by simp), widthL_const (ds := ds) (fun x hx => h x (by simp [hx]))]
    simp [Nat.succ_mul, Nat.add_comm]

/-- One element out of a list's cells. -/
theorem rdL_at {o : Bool} {w : World} {ds : List D} {cs : List Value} {F : List Nat} {sz : Nat} (h : rdL o w ds cs F) (hw : ∀ d, d ∈ ds → width d = sz) (i : Nat) (hi : i < ds.length) :
    ∃ c1 c2 c3 F1 F2 F3, cs = c1 ++ (c2 ++ c3) ∧ F = F1 ++ (F2 ++ F3) ∧ rdL o w (ds.take i) c1 F1 ∧ rd o w ds[i] c2 F2 ∧ rdL o w (ds.drop (i + 1)) c3 F3 ∧ c1.length = i * sz ∧ c2.length = sz := by
  have e : ds = ds.take i ++ (ds[i] :: ds.drop (i + 1)) := by
    rw [← List.drop_eq_getElem_cons hi, List.take_append_drop]
  rw [e] at h
  obtain ⟨c1, cr, F1, Fr, rfl, rfl, h1, hr⟩ := rdL_split h
  rw [rdL] at hr
  obtain ⟨c2, c3, F2, F3, rfl, rfl, h2, h3⟩ := hr
  refine ⟨c1, c2, c3, F1, F2, F3, rfl, rfl, h1, h2, h3, ?_, ?_⟩
  · rw [rdL_width _ _ _ h1, widthL_const (fun d hd => hw d (List.mem_of_mem_take hd)), List.length_take, Nat.min_eq_left (Nat.le_of_lt hi)]
  · rw [rd_width _ _ _ h2, hw _ (List.getElem_mem hi)]

theorem take_drop_get {α : Type} {l xs : List α} {off : Nat} (h : (l.drop off).take xs.length = xs) (j : Nat) (hj : j < xs.length) : l[off + j]? = some xs[j] := by
  have e : ((l.drop off).take xs.length)[j]? = xs[j]? := by rw [h]
  rw [List.getElem?_take, if_pos hj, List.getElem?_drop, List.getElem?_eq_getElem hj] at e
  exact e

/-- A slice's value, and each element's cells. -/
theorem rd_sl {o : Bool} {w : World} {sz : Nat} {ds : List D} {v : Value} {F : List Nat} (h : rd o w (.sl sz ds) [v] F) (hw : ∀ d, d ∈ ds → width d = sz) :
    ∃ A c, v = .slice A ds.length c ∧ ds.length ≤ c ∧ c ≤ 9223372036854775807 ∧
      ∀ i (hi : i < ds.length), ∃ b off cs G, A = some ⟨b, off, none⟩ ∧ b < w.heap.size ∧ b ∈ F ∧ (∀ x, x ∈ G → x ∈ F) ∧ rd o w ds[i] cs G ∧ cs.length = sz ∧
        (∀ j u, cs[j]? = some u → w.cell? ⟨b, off + i * sz + j, none⟩ = some u) ∧ (o = true → ∀ j, w.frozen? ⟨b, j, none⟩ = false) := by
  rw [rd] at h
  obtain ⟨A, c, h1, h2, h3, h4⟩ := h
  refine ⟨A, c, by simpa using h1, h2, h3, fun i hi => ?_⟩
  rcases h4 with h4 | ⟨b, off, cells, e, fr, xs, F', hA, hb, hfr, rfl, hl, hx, hr⟩
  · omega
  · obtain ⟨c1, c2, c3, F1, F2, F3, hc, hF, _, hd, _, l1, l2⟩ := rdL_at hr hw i hi
    refine ⟨b, off, c2, F2, hA, (Array.getElem?_eq_some_iff.1 hb).1, by simp, fun x hx => by simp [hF, hx], hd, l2, fun j u hj => ?_, fun ho j => ?_⟩
    · have hjl : j < c2.length := (List.getElem?_eq_some_iff.1 hj).1
      have hlt : i * sz + j < xs.length := by rw [hc]; simp; omega
      have := take_drop_get hx (i * sz + j) hlt
      rw [cell_of_row w b (off + i * sz + j) cells e fr hb, ← Array.getElem?_toList, Nat.add_assoc, this, ← hj]
      subst hc
      rw [← List.getElem?_eq_getElem, List.getElem?_append_right (by omega), List.getElem?_append_left (by omega), l1]
      congr 1
      omega
    · obtain rfl := hfr ho
      exact frozen_of_row w b j cells e hb

/-! Growth, a step at a time. -/
theorem belowA {w W : World} (h : Below w.heap.size w W) (o : Obj) : Below w.heap.size w (W.alloc o) := h.alloc h.size o
theorem belowD {w W : World} (h : Below w.heap.size w W) : Below w.heap.size w W.drew := ⟨h.os, h.tape, h.output, h.size, h.block⟩
theorem belowN {w W : World} (h : Below w.heap.size w W) (n : Nat) : Below w.heap.size w (W.drewN n) := ⟨h.os, h.tape, h.output, h.size, h.block⟩
theorem belowS {w W : World} (h : Below w.heap.size w W) (b i : Nat) (hb : w.heap.size ≤ b) (v : Value) : Below w.heap.size w (W.setCell ⟨b, i, none⟩ v) := h.setCell hb v
theorem belowT {w w1 w2 : World} (h : Below w.heap.size w w1) (k : Below w1.heap.size w1 w2) : Below w.heap.size w w2 := h.trans (k.mono h.size)
theorem belowG {w w1 w2 : World} (h : Below w.heap.size w w1) {row : Option Nat} (hg : w1.grownBy w2 row) (hr : ∀ k, row = some k → w.heap.size ≤ k) : Below w.heap.size w w2 := h.grown hg h.size hr
theorem belowDT {w w1 w2 : World} (h : Below w.heap.size w w1) (k : Below w1.drew.heap.size w1.drew w2) : Below w.heap.size w w2 := belowT (belowD h) k
theorem below_cell {w w1 : World} (h : Below w.heap.size w w1) {b i : Nat} {v : Value} (hc : w.cell? ⟨b, i, none⟩ = some v) : w1.cell? ⟨b, i, none⟩ = some v := (h.cell (World.block_lt_of_cell? w _ hc)).trans hc

theorem bcell {W w1 : World} (hb : Below W.heap.size W w1) : (∀ b o, b < W.heap.size → w1.cell? ⟨b, o, none⟩ = W.cell? ⟨b, o, none⟩) ∧ (∀ b o, b < W.heap.size → w1.frozen? ⟨b, o, none⟩ = W.frozen? ⟨b, o, none⟩) :=
  ⟨fun b o h => hb.cell (p := ⟨b, o, none⟩) h, fun b o h => hb.frozen (p := ⟨b, o, none⟩) h⟩
theorem blk_below {w w1 : World} {g : Nat} {o : Obj} (h : w.heap[g]? = some o) (hb : Below w.heap.size w w1) : w1.heap[g]? = some o := (hb.block g (Array.getElem?_eq_some_iff.1 h).1).trans h
theorem blk_alloc {w : World} {g : Nat} {o : Obj} (h : w.heap[g]? = some o) (o' : Obj) : (w.alloc o').heap[g]? = some o := (Below.heap_alloc w o' g (Array.getElem?_eq_some_iff.1 h).1).trans h
theorem cell_realloc {W : World} {o o' : Obj} {b i : Nat} {v : Value} (h : (W.alloc o).cell? ⟨b, i, none⟩ = some v) (hb : b < W.heap.size) : (W.alloc o').cell? ⟨b, i, none⟩ = some v := by
  rw [World.cell?_alloc_past _ _ _ hb] at h ⊢; exact h
theorem below_realloc {w W : World} {o o' : Obj} (h : Below w.heap.size w (W.alloc o)) (hz : w.heap.size ≤ W.heap.size) : Below w.heap.size w (W.alloc o') :=
  ⟨h.os, h.tape, h.output, by have := h.size; simp at this ⊢; omega, fun k hk => by
    have := h.block k hk
    rw [Below.heap_alloc _ _ _ (by omega)] at this ⊢
    exact this⟩
theorem str_eq {a b : ByteArray} (h : (!a.toList == b.toList) = false) : a = b := by
  simp only [Bool.not_eq_false', beq_iff_eq, ByteArray.toList_eq] at h
  exact Go.WideShapes.bytes_inj h
theorem str_ne {a b : ByteArray} (h : (!a.toList == b.toList) = true) : a ≠ b := by
  rintro rfl
  simp at h
theorem str_eq' {a b : ByteArray} (h : (a.toList == b.toList) = true) : a = b := by
  simp only [beq_iff_eq, ByteArray.toList_eq] at h
  exact Go.WideShapes.bytes_inj h
theorem str_ne' {a b : ByteArray} (h : (a.toList == b.toList) = false) : a ≠ b := by
  rintro rfl
  simp at h

/-- The blocks of a result: each once, all from 'base' on. -/
structure Fresh (base : Nat) (F : List Nat) : Prop where
  nodup : F.Nodup
  from_ : ∀ b, b ∈ F → base ≤ b
theorem Fresh.nil (base : Nat) : Fresh base [] := ⟨List.nodup_nil, by simp⟩
theorem Fresh.low {base base' : Nat} {F : List Nat} (h : Fresh base F) (hb : base' ≤ base) : Fresh base' F := ⟨h.nodup, fun b hF => Nat.le_trans hb (h.from_ b hF)⟩

/-! A row that the call itself made: filled from the left. -/
section
variable {w w' : World} {base : Nat} {e : TypeId} {sz n cap g : Nat} {A : Option Addr} {p q cs : List Value} {ds : List D} {F : List Nat}
theorem own_put (h : w.ownsRow base e sz (.slice (some ⟨g, 0, none⟩) n cap) n (p ++ q)) (hq : 0 < q.length) (v : Value) :
    ∃ q', (w.setCell ⟨g, p.length, none⟩ v).ownsRow base e sz (.slice (some ⟨g, 0, none⟩) n cap) n ((p ++ [v]) ++ q') ∧ q'.length + 1 = q.length := by
  match q, hq with
  | x :: q, _ =>
    refine ⟨q, ?_, rfl⟩
    have := (h.stored p.length v).1
    simpa using this
theorem own_cell (h : w.ownsRow base e sz (.slice (some ⟨g, 0, none⟩) n cap) n cs) (j : Nat) (hj : j < n * sz) : ∃ u, cs[j]? = some u ∧ w.cell? ⟨g, j, none⟩ = some u := by
  have hl : j < cs.length := by rw [h.1]; exact hj
  exact ⟨cs[j], List.getElem?_eq_getElem hl, (h.cellAt j hj).trans (List.getElem?_eq_getElem hl)⟩
theorem own_below {v : Value} (h : w.ownsRow base e sz v n cs) (hb : Below w.heap.size w w') : w'.ownsRow base e sz v n cs :=
  h.kept (row := none) ⟨hb.os, hb.tape, hb.output, hb.size, fun i hi _ => hb.block i hi⟩ (by cases v.ownBlock <;> simp)
theorem own_all {v : Value} (h : w.ownsRow base e sz v n (p ++ q)) (hp : p.length = n * sz) : q = [] := by
  have := h.1
  rw [List.length_append] at this
  exact List.eq_nil_of_length_eq_zero (by omega)
theorem own_rest {v : Value} (h : w.ownsRow base e sz v n (p ++ q)) {k : Nat} (hp : p.length = k * sz) (hk : k < n) : sz ≤ q.length := by
  have := h.1
  rw [List.length_append] at this
  have h2 : (k + 1) * sz ≤ n * sz := Nat.mul_le_mul_right _ hk
  rw [Nat.succ_mul] at h2
  omega
theorem take_map_snoc {α β : Type} {f : α → β} {xs : List α} {k : Nat} (hk : k < xs.length) : (xs.take (k + 1)).map f = (xs.take k).map f ++ [f xs[k]] := by
  rw [List.take_succ_eq_append_getElem hk, List.map_append]; rfl
theorem own_rd (h : w.ownsRow base e sz (.slice A n cap) n cs) (hd : rdL true w ds cs F) (hl : ds.length = n) (hF : Fresh base F) (hg : ∀ b, (Value.slice A n cap).ownBlock = some b → b ∉ F) :
    ∃ G, rd true w (.sl sz ds) [.slice A n cap] G ∧ Fresh base G ∧ (∀ b, b ∈ G → b ∈ F ∨ (Value.slice A n cap).ownBlock = some b) := by
  subst hl
  have h2 := h.2
  have h1 := h.1
  rcases h2 with ⟨hv, hn⟩ | ⟨g, cap', cur, hv, hb, hh, hnc, hcm, hcs, htake⟩
  · have : ds = [] := List.eq_nil_of_length_eq_zero hn
    subst this
    rw [rdL] at hd
    obtain ⟨rfl, rfl⟩ := hd
    simp only [Value.slice.injEq] at hv
    obtain ⟨rfl, _, rfl⟩ := hv
    exact ⟨[], by rw [rd]; exact ⟨none, 0, rfl, Nat.le_refl _, by omega, .inl ⟨rfl, rfl⟩⟩, hF, by simp⟩
  · simp only [Value.slice.injEq] at hv
    obtain ⟨rfl, _, rfl⟩ := hv
    unfold maxLen at hcm
    have hgF := hg g rfl
    refine ⟨g :: F, ?_, ⟨List.nodup_cons.2 ⟨hgF, hF.nodup⟩, ?_⟩, ?_⟩
    · rw [rd]
      refine ⟨_, cap, rfl, hnc, by omega, .inr ⟨g, 0, cur, e, (0, 0), cs, F, rfl, hh, fun _ => rfl, rfl, h1, ?_, hd⟩⟩
      rw [List.drop_zero, h1, htake]
    · intro b hb'
      rcases List.mem_cons.1 hb' with rfl | hb'
      · exact hb
      · exact hF.from_ b hb'
    · intro b hb'
      rcases List.mem_cons.1 hb' with rfl | hb'
      · exact .inr rfl
      · exact .inl hb'
end

end Go.Proofs.Ytpjpnppoejnafaa
