import Derived.Test.YtgcgkcchoghkaaaDoorMFnExactPatchTextCard0
import Derived.Lib.Hide
import Derived.Lib.SliceRun
import Derived.WalkKit
import Derived.IntWalk
import Derived.Deep.LoopGhost
import Derived.WalkLawsBesides
import Derived.Test.YtgcgkcchoghkaaaDoorProg
import Derived.Below
import Derived.Deep.Draws
import Derived.Deep.AppendLies
import Derived.Maps.AppendAt
import Derived.OwnWalk
import Derived.Laws.BytesArg
import Derived.Laws.MakeOwn
import Derived.Laws.OwnMore
import Derived.Deep.OwnRows
import Derived.Tactics
import Derived.Lib.ConvBytes
import Derived.Laws.Slices
import Derived.KernelRfl
import Derived.RowKit3
import Derived.Deep.QuietTactic
import Derived.BigQuiet
import Derived.WideLaws
import Derived.Deep.DeepCutAuto
import Derived.Deep.CutBlock
import Derived.Deep.RegionHeld3
import Derived.Laws.Rows
import Derived.Lib.AppendStr
import Derived.ArgAppend
import Derived.Laws.IdiomCopy
import Derived.OrdersHeld
import Derived.Laws.BitsLemmas
import Derived.RowKit
import Derived.Shelf.Vars
import Derived.Test.YtgcgkcchoghkaaaDoorShelf
import Derived.BigRegion
import Derived.Handy
import Derived.Deep.DrawnRows
/- GKit -/
/-
  Small words beside the print's: lists searched by a test that may lack an answer, rows that stand below a growing world.
-/
namespace Go.Proofs.YtgcgkcchoghkaaaDoor.G
open Go.RowKit Go.Proofs.YtgcgkcchoghkaaaDoorW.PrintWords Go.Proofs.YtgcgkcchoghkaaaDoorW.PrintLast Go.Proofs.YtgcgkcchoghkaaaDoorW.PrintMore
set_option linter.unusedVariables false

/-- The place of the first for which p says yes, counted from k on; -1 without one. -/
def idxO {α : Type} (p : α → Option Bool) : List α → Nat → Option Int
  | [], _ => some (-1)
  | x :: xs, k => (p x).bind fun b => if b then some (k : Int) else idxO p xs (k + 1)
theorem idxO_step {α : Type} {p : α → Option Bool} {xs : List α} {k : Nat} {r : Int} (hk : k < xs.length) (h : idxO p (xs.drop k) k = some r) :
    ∃ b, p xs[k] = some b ∧ (b = true → r = k) ∧ (b = false → idxO p (xs.drop (k + 1)) (k + 1) = some r) := by
  rw [List.drop_eq_getElem_cons hk, idxO] at h
  cases hp : p xs[k] with
  | none => rw [hp] at h; cases h
  | some b =>
    rw [hp] at h
    refine ⟨b, rfl, ?_, ?_⟩
    · rintro rfl; simpa using h.symm
    · rintro rfl; simpa using h
theorem idxO_end {α : Type} {p : α → Option Bool} {xs : List α} {r : Int} (h : idxO p (xs.drop xs.length) xs.length = some r) : r = -1 := by
  rw [List.drop_length, idxO] at h
  exact (Option.some.inj h).symm
theorem getD_at {α : Type} {xs : List α} {k : Nat} (hk : k < xs.length) (z : α) : xs.getD k z = xs[k] := by
  rw [List.getD_eq_getElem?_getD, List.getElem?_eq_getElem hk]; rfl
theorem below_trans {w w1 w2 : World} (h : Below w.heap.size w w1) (k : Below w1.heap.size w1 w2) : Below w.heap.size w w2 := below_then h h.size k
theorem hid_below {w w1 w2 : World} (h : Hid (Below w.heap.size w w1)) (k : Below w1.heap.size w1 w2) : Hid (Below w.heap.size w w2) := below_trans h.out k
section
variable {α : Type} {d : Kd α} {e base n c : Nat} {ok : Nat → Prop} {w : World} {A : Option Addr} {xs : List α}
end

/-! ### slices.DeleteFunc: what it leaves, and the state of its loop -/
def delO {α : Type} (p : α → Option Bool) : List α → Option (List α)
  | [] => some []
  | x :: xs => (p x).bind fun b => (delO p xs).bind fun ys => some (if b then ys else x :: ys)
structure DelSt {α : Type} (d : Kd α) (e : Nat) (p : α → Option Bool) (l0 r : List α) (ok : Nat → Prop) (w0 w : World) (g : Nat) (cur : Array Value) (m j : Nat) (wr : World) : Prop where
  st : ∃ (cur' : Array Value) (ys r2 : List α), ys.length = m ∧ wr.heap[g]? = some (.cells cur' e (0, 0)) ∧ cur'.size = cur.size ∧ cur'.toList.drop (j * d.sz) = cur.toList.drop (j * d.sz) ∧
    Reps (d.M wr w0.heap.size (fun k => ok k ∧ k ≠ g)) d.sz ys (cur'.toList.take (m * d.sz)) ∧ delO p (l0.drop j) = some r2 ∧ r = ys ++ r2
  kept : Kept w wr (fun k => k = g)
  below : Below w0.heap.size w0 wr
  pos : m < j
section
variable {α : Type} {d : Kd α} {e c : Nat} {p : α → Option Bool} {l0 r : List α} {ok : Nat → Prop} {w0 w wr W : World} {g m j : Nat} {cur : Array Value}
end
theorem bind_some' {α β : Type} {o : Option α} {f : α → Option β} {r : β} (h : o.bind f = some r) : ∃ a, o = some a ∧ f a = some r := Option.bind_eq_some_iff.1 h
/-- A row of one-cell elements with an element: where its cells are. -/
theorem C_cells {α : Type} {f : α → Value} {dflt : α} {w : World} {A : Option Addr} {n : Nat} {xs : List α} (h : ReadsOf f dflt w A n xs) (h0 : 0 < xs.length) :
    ∃ bk o, A = some ⟨bk, o, none⟩ ∧ bk < w.heap.size ∧ ∀ (j : Nat) x, xs[j]? = some x → w.cell? ⟨bk, o + j, none⟩ = some (f x) := by
  obtain ⟨hl, _, hh⟩ := h
  subst hl
  obtain ⟨ad, rfl, hc⟩ := hh h0
  have h1 := hc 0 h0
  obtain ⟨bk, o, sp⟩ := ad
  have hsp : sp = none := by
    have h2 : w.cell? ⟨bk, o, sp⟩ = some (f (xs.getD 0 dflt)) := by simpa [Addr.add] using h1
    unfold World.cell? at h2
    simp only at h2
    split at h2
    · cases sp with
      | none => rfl
      | some z => simp at h2
    · simp at h2
  subst hsp
  refine ⟨bk, o, rfl, World.block_lt_of_cell? w ⟨bk, o, none⟩ (by simpa [Addr.add] using h1), fun j x hj => ?_⟩
  have hjl := (List.getElem?_eq_some_iff.1 hj).1
  have h3 := hc j hjl
  have ha : (⟨bk, o, none⟩ : Addr).add j = ⟨bk, o + j, none⟩ := by unfold Addr.add; split <;> simp_all
  rw [ha, List.getD_eq_getElem?_getD, hj] at h3
  exact h3
end Go.Proofs.YtgcgkcchoghkaaaDoor.G

/- GKMini -/
/-
  Short words for what printed texts say again and again: facts carried into a world that has only grown by boxes and orders.
-/
namespace Go.Proofs.YtgcgkcchoghkaaaDoor.G
open Go.RowKit Go.Proofs.YtgcgkcchoghkaaaDoorW.PrintWords Go.Proofs.YtgcgkcchoghkaaaDoorW.PrintLast Go.Proofs.YtgcgkcchoghkaaaDoorW.PrintMore
set_option linter.unusedVariables false
/-- The second world is the first one, and boxes and orders since. -/
class Gr (W W' : World) : Prop where
  out : Below W.heap.size W W'
instance Gr.refl (W : World) : Gr W W := ⟨Below.refl _ _⟩
instance Gr.alloc (W W' : World) (o : Obj) [g : Gr W W'] : Gr W (W'.alloc o) := ⟨below_then g.out g.out.size (below_alloc (Below.refl _ _) o)⟩
instance Gr.drewN (W W' : World) (n : Nat) [g : Gr W W'] : Gr W (W'.drewN n) := ⟨pw_below_drewN g.out n⟩
instance Gr.drew (W W' : World) [g : Gr W W'] : Gr W W'.drew := ⟨below_drew g.out⟩
section
variable {w W W' : World} {α : Type} {d : Kd α} {A : Option Addr} {n g gb e base : Nat} {xs : List α} {o : Obj} {v : Value} {ok : Nat → Prop}
theorem qB (h : Aside0 (Below w.heap.size w W)) [q : Gr W W'] : Below w.heap.size w W' := below_then h.out h.out.size q.out
theorem qK (h : Aside0 (W.heap[g]? = some o)) [q : Gr W W'] : W'.heap[g]? = some o := (q.out.block g (blk_lt h.out)).trans h.out
theorem qG (h : Aside0 (Below w.heap.size w W)) [q : Gr W W'] (hg : gb = W'.heap.size) : w.heap.size ≤ gb := hg ▸ (qB (W' := W') h).size
theorem qN (h : Aside0 (W.heap[g]? = some o)) [q : Gr W W'] (hg : gb = W'.heap.size) : g ≠ gb := hg ▸ Nat.ne_of_lt (blk_lt (qK (W' := W') h))
theorem qC (h : Aside0 (Kd.C d w A n xs)) (hb : Aside0 (Below w.heap.size w W)) [q : Gr W W'] : Kd.C d W' A n xs := Kd.C_below h.out (qB hb)
theorem qC0 (h : Aside0 (Kd.C d W A n xs)) [q : Gr W W'] : Kd.C d W' A n xs := Kd.C_below h.out q.out
end
section
variable {W : World} {g t : Nat} {a0 a1 a2 a3 a4 a5 a6 : Value}
theorem blk5 (h : Aside0 (W.heap[g]? = some (.cells #[a0, a1, a2, a3, a4] t (0, 0)))) : W.cell? ⟨g, 0, none⟩ = some a0 ∧ W.cell? ⟨g, 1, none⟩ = some a1 ∧ W.cell? ⟨g, 2, none⟩ = some a2 ∧ W.cell? ⟨g, 3, none⟩ = some a3 ∧ W.cell? ⟨g, 4, none⟩ = some a4 ∧ W.frozen? ⟨g, 0, none⟩ = false ∧ W.frozen? ⟨g, 1, none⟩ = false ∧ W.frozen? ⟨g, 2, none⟩ = false ∧ W.frozen? ⟨g, 3, none⟩ = false ∧ W.frozen? ⟨g, 4, none⟩ = false := ⟨blk_cell h.out 0, blk_cell h.out 1, blk_cell h.out 2, blk_cell h.out 3, blk_cell h.out 4, blk_frozen h.out 0, blk_frozen h.out 1, blk_frozen h.out 2, blk_frozen h.out 3, blk_frozen h.out 4⟩
theorem blk7 (h : Aside0 (W.heap[g]? = some (.cells #[a0, a1, a2, a3, a4, a5, a6] t (0, 0)))) : W.cell? ⟨g, 0, none⟩ = some a0 ∧ W.cell? ⟨g, 1, none⟩ = some a1 ∧ W.cell? ⟨g, 2, none⟩ = some a2 ∧ W.cell? ⟨g, 3, none⟩ = some a3 ∧ W.cell? ⟨g, 4, none⟩ = some a4 ∧ W.cell? ⟨g, 5, none⟩ = some a5 ∧ W.cell? ⟨g, 6, none⟩ = some a6 ∧ W.frozen? ⟨g, 0, none⟩ = false ∧ W.frozen? ⟨g, 1, none⟩ = false ∧ W.frozen? ⟨g, 2, none⟩ = false ∧ W.frozen? ⟨g, 3, none⟩ = false ∧ W.frozen? ⟨g, 4, none⟩ = false ∧ W.frozen? ⟨g, 5, none⟩ = false ∧ W.frozen? ⟨g, 6, none⟩ = false :=
  ⟨blk_cell h.out 0, blk_cell h.out 1, blk_cell h.out 2, blk_cell h.out 3, blk_cell h.out 4, blk_cell h.out 5, blk_cell h.out 6, blk_frozen h.out 0, blk_frozen h.out 1, blk_frozen h.out 2, blk_frozen h.out 3, blk_frozen h.out 4, blk_frozen h.out 5, blk_frozen h.out 6⟩
end
end Go.Proofs.YtgcgkcchoghkaaaDoor.G

/- G0 -/
-- Laid by wip/g/gprint.py out of the translation, by the kit's print program. Lean checks it.
namespace Go.Proofs.YtgcgkcchoghkaaaDoor.G
open Go.RowKit Go.Proofs.YtgcgkcchoghkaaaDoorW.PrintWords Go.Proofs.YtgcgkcchoghkaaaDoorW.PrintLast Go.Proofs.YtgcgkcchoghkaaaDoorW.PrintMore
attribute [local go_sem] max2_int min2_int max_two min_two max_three min_three max_four min_four   -- for this text's walks alone
set_option linter.unusedVariables false
set_option linter.unusedSimpArgs false

def errW : Option Int → Value
 | none => .nilIface
 | some c => .iface 0 (.int .i64 c)
theorem errW_none : errW none = .nilIface := rfl
theorem errW_some (c : Int) : errW (some c) = .iface 0 (.int .i64 c) := rfl

theorem info5 : (Tryd.prog.info? 5).map (fun i => (i.zero, i.size, i.bytes)) = some (some (.int .u8 0), 1, 1) := by kernel_rfl
theorem info9 : (Tryd.prog.info? 9).map (fun i => (i.zero, i.size, i.bytes)) = some (some (.string ⟨#[]⟩), 1, 16) := by kernel_rfl
theorem info39 : (Tryd.prog.info? 39).map (fun i => (i.zero, i.size, i.bytes)) = some (some (.agg #[(.int .i64 0), (.string ⟨#[]⟩), (.int .i64 0), (.slice none 0 0), (.slice none 0 0)]), 5, 80) := by kernel_rfl
theorem info41 : (Tryd.prog.info? 41).map (fun i => (i.zero, i.size, i.bytes)) = some (some (.agg #[(.int .i64 0), (.slice none 0 0), (.int .i64 0), (.string ⟨#[]⟩), (.int .i64 0), (.slice none 0 0), (.slice none 0 0)]), 7, 112) := by kernel_rfl
-- the values' own types
/-! #### struct type 33, nested in itself -/
structure S33 where
 f0 : Int
 f1 : ByteArray
 f2 : Int
 f3 : (List ByteArray)
 f4 : (List S33)
def z33 : S33 := ⟨(0 : Int), (⟨#[]⟩ : ByteArray), (0 : Int), ([] : List ByteArray), ([] : List S33)⟩
def F33 (d : Kd S33) : Kd S33 := Kd.iso (Kd.pair (Kd.int .i64) (Kd.pair Kd.string (Kd.pair (Kd.int .i64) (Kd.pair (Kd.slice 9 Kd.string) (Kd.slice 33 d))))) (fun x : S33 => (x.f0, x.f1, x.f2, x.f3, x.f4))
theorem mono33 : Kd.Mono F33 := Kd.mono_iso _ (Kd.mono_pair (Kd.mono_const _) (Kd.mono_pair (Kd.mono_const _) (Kd.mono_pair (Kd.mono_const _) (Kd.mono_pair (Kd.mono_const _) (Kd.mono_slice 33 Kd.mono_id)))))
theorem sub33 : Kd.Sub F33 [9, 33] := Kd.sub_iso _ (Kd.sub_pair (Kd.sub_const _ (by decide)) (Kd.sub_pair (Kd.sub_const _ (by decide)) (Kd.sub_pair (Kd.sub_const _ (by decide)) (Kd.sub_pair (Kd.sub_const _ (by decide)) (Kd.sub_slice 33 (by decide) Kd.sub_id)))))
theorem sz33 : ∀ n, (Kd.upto F33 5 [9, 33] n).sz = 5 := Kd.upto_sz (fun _ => rfl)
def k33 : Kd S33 := Kd.fix F33 5 [9, 33] sz33 (Kd.upto_E sub33)
theorem k33_open {w : World} {x : S33} {cs : List Value} (h : k33.K w x cs) : ∃ A3 c3 A4 c4, cs = [.int .i64 x.f0, .string x.f1, .int .i64 x.f2, .slice A3 x.f3.length c3, .slice A4 x.f4.length c4] ∧ x.f3.length ≤ c3 ∧ Kd.string.C w A3 x.f3.length x.f3 ∧ x.f4.length ≤ c4 ∧ k33.C w A4 x.f4.length x.f4 := by
 obtain ⟨n, h⟩ := h
 cases n with
 | zero => exact h.elim
 | succ n =>
  obtain ⟨_, _, rfl, rfl, ⟨_, _, rfl, rfl, ⟨_, _, rfl, rfl, ⟨_, _, rfl, ⟨A3, c3, rfl, l3, g3⟩, ⟨A4, c4, rfl, l4, g4⟩⟩⟩⟩⟩ := h
  exact ⟨A3, c3, A4, c4, rfl, l3, g3, l4, Kd.fix_C g4⟩
def rd_T33 (xs : List S33) (i : Int) : S33 := xs.getD i.toNat z33
theorem at_T33 {w : World} {A : Option Addr} {n : Nat} {xs : List S33} (h : Kd.C k33 w A n xs) (i : Int) (h0 : 0 ≤ i) (h1 : i < n) : ∃ ad A3 c3 A4 c4, A = some ad ∧ w.cell? (ad.add (i.toNat * 5)) = some (.int .i64 (rd_T33 xs i).f0) ∧ w.cell? ⟨(ad.add (i.toNat * 5)).block, (ad.add (i.toNat * 5)).off + 1, none⟩ = some (.string (rd_T33 xs i).f1) ∧ w.cell? ⟨(ad.add (i.toNat * 5)).block, (ad.add (i.toNat * 5)).off + 2, none⟩ = some (.int .i64 (rd_T33 xs i).f2) ∧ w.cell? ⟨(ad.add (i.toNat * 5)).block, (ad.add (i.toNat * 5)).off + 3, none⟩ = some (.slice A3 (rd_T33 xs i).f3.length c3) ∧ w.cell? ⟨(ad.add (i.toNat * 5)).block, (ad.add (i.toNat * 5)).off + 4, none⟩ = some (.slice A4 (rd_T33 xs i).f4.length c4) ∧ (rd_T33 xs i).f3.length ≤ c3 ∧ Kd.string.C w A3 (rd_T33 xs i).f3.length (rd_T33 xs i).f3 ∧ (rd_T33 xs i).f4.length ≤ c4 ∧ k33.C w A4 (rd_T33 xs i).f4.length (rd_T33 xs i).f4 := by
 obtain ⟨ad, c, e, _, hK, hc0⟩ := Kd.C_get h z33 i h0 h1
 have hc : ∀ j u, c[j]? = some u → w.cell? (ad.add (i.toNat * 5 + j)) = some u := hc0
 obtain ⟨A3, c3, A4, c4, rfl, l3, g3, l4, g4⟩ := k33_open hK
 exact ⟨ad, A3, c3, A4, c4, e, hc 0 _ rfl, by rw [← add_field _ _ 1 (by omega)]; exact hc 1 _ rfl, by rw [← add_field _ _ 2 (by omega)]; exact hc 2 _ rfl, by rw [← add_field _ _ 3 (by omega)]; exact hc 3 _ rfl, by rw [← add_field _ _ 4 (by omega)]; exact hc 4 _ rfl, l3, g3, l4, g4⟩

/-! #### struct type 35 -/
structure S35 where
 f0 : Int
 f1 : (List ByteArray)
 f2 : S33
def z35 : S35 := ⟨(0 : Int), ([] : List ByteArray), z33⟩
def k35 : Kd S35 := Kd.iso (Kd.pair (Kd.int .i64) (Kd.pair (Kd.slice 9 Kd.string) k33)) (fun x : S35 => (x.f0, x.f1, x.f2))
theorem k35_open {w : World} {x : S35} {cs : List Value} (h : k35.K w x cs) : ∃ A1 c1 A5 c5 A6 c6, cs = [.int .i64 x.f0, .slice A1 x.f1.length c1, .int .i64 x.f2.f0, .string x.f2.f1, .int .i64 x.f2.f2, .slice A5 x.f2.f3.length c5, .slice A6 x.f2.f4.length c6] ∧ x.f1.length ≤ c1 ∧ Kd.string.C w A1 x.f1.length x.f1 ∧ x.f2.f3.length ≤ c5 ∧ Kd.string.C w A5 x.f2.f3.length x.f2.f3 ∧ x.f2.f4.length ≤ c6 ∧ k33.C w A6 x.f2.f4.length x.f2.f4 := by
 obtain ⟨_, _, rfl, rfl, ⟨_, _, rfl, ⟨A1, c1, rfl, l1, g1⟩, s2⟩⟩ := h
 obtain ⟨A5, c5, A6, c6, rfl, l5, g5, l6, g6⟩ := k33_open s2
 exact ⟨A1, c1, A5, c5, A6, c6, rfl, l1, g1, l5, g5, l6, g6⟩
def rd_T35 (xs : List S35) (i : Int) : S35 := xs.getD i.toNat z35
theorem at_T35 {w : World} {A : Option Addr} {n : Nat} {xs : List S35} (h : Kd.C k35 w A n xs) (i : Int) (h0 : 0 ≤ i) (h1 : i < n) : ∃ ad A1 c1 A5 c5 A6 c6, A = some ad ∧ w.cell? (ad.add (i.toNat * 7)) = some (.int .i64 (rd_T35 xs i).f0) ∧ w.cell? ⟨(ad.add (i.toNat * 7)).block, (ad.add (i.toNat * 7)).off + 1, none⟩ = some (.slice A1 (rd_T35 xs i).f1.length c1) ∧ w.cell? ⟨(ad.add (i.toNat * 7)).block, (ad.add (i.toNat * 7)).off + 2, none⟩ = some (.int .i64 (rd_T35 xs i).f2.f0) ∧ w.cell? ⟨(ad.add (i.toNat * 7)).block, (ad.add (i.toNat * 7)).off + 3, none⟩ = some (.string (rd_T35 xs i).f2.f1) ∧ w.cell? ⟨(ad.add (i.toNat * 7)).block, (ad.add (i.toNat * 7)).off + 4, none⟩ = some (.int .i64 (rd_T35 xs i).f2.f2) ∧ w.cell? ⟨(ad.add (i.toNat * 7)).block, (ad.add (i.toNat * 7)).off + 5, none⟩ = some (.slice A5 (rd_T35 xs i).f2.f3.length c5) ∧ w.cell? ⟨(ad.add (i.toNat * 7)).block, (ad.add (i.toNat * 7)).off + 6, none⟩ = some (.slice A6 (rd_T35 xs i).f2.f4.length c6) ∧ (rd_T35 xs i).f1.length ≤ c1 ∧ Kd.string.C w A1 (rd_T35 xs i).f1.length (rd_T35 xs i).f1 ∧ (rd_T35 xs i).f2.f3.length ≤ c5 ∧ Kd.string.C w A5 (rd_T35 xs i).f2.f3.length (rd_T35 xs i).f2.f3 ∧ (rd_T35 xs i).f2.f4.length ≤ c6 ∧ k33.C w A6 (rd_T35 xs i).f2.f4.length (rd_T35 xs i).f2.f4 := by
 obtain ⟨ad, c, e, _, hK, hc0⟩ := Kd.C_get h z35 i h0 h1
 have hc : ∀ j u, c[j]? = some u → w.cell? (ad.add (i.toNat * 7 + j)) = some u := hc0
 obtain ⟨A1, c1, A5, c5, A6, c6, rfl, l1, g1, l5, g5, l6, g6⟩ := k35_open hK
 exact ⟨ad, A1, c1, A5, c5, A6, c6, e, hc 0 _ rfl, by rw [← add_field _ _ 1 (by omega)]; exact hc 1 _ rfl, by rw [← add_field _ _ 2 (by omega)]; exact hc 2 _ rfl, by rw [← add_field _ _ 3 (by omega)]; exact hc 3 _ rfl, by rw [← add_field _ _ 4 (by omega)]; exact hc 4 _ rfl, by rw [← add_field _ _ 5 (by omega)]; exact hc 5 _ rfl, by rw [← add_field _ _ 6 (by omega)]; exact hc 6 _ rfl, l1, g1, l5, g5, l6, g6⟩

/-! #### struct type 39, nested in itself -/
structure S39 where
 f0 : Int
 f1 : ByteArray
 f2 : Int
 f3 : (List ByteArray)
 f4 : (List S39)
def z39 : S39 := ⟨(0 : Int), (⟨#[]⟩ : ByteArray), (0 : Int), ([] : List ByteArray), ([] : List S39)⟩
def F39 (d : Kd S39) : Kd S39 := Kd.iso (Kd.pair (Kd.int .i64) (Kd.pair Kd.string (Kd.pair (Kd.int .i64) (Kd.pair (Kd.slice 9 Kd.string) (Kd.slice 39 d))))) (fun x : S39 => (x.f0, x.f1, x.f2, x.f3, x.f4))
theorem mono39 : Kd.Mono F39 := Kd.mono_iso _ (Kd.mono_pair (Kd.mono_const _) (Kd.mono_pair (Kd.mono_const _) (Kd.mono_pair (Kd.mono_const _) (Kd.mono_pair (Kd.mono_const _) (Kd.mono_slice 39 Kd.mono_id)))))
theorem sub39 : Kd.Sub F39 [9, 39] := Kd.sub_iso _ (Kd.sub_pair (Kd.sub_const _ (by decide)) (Kd.sub_pair (Kd.sub_const _ (by decide)) (Kd.sub_pair (Kd.sub_const _ (by decide)) (Kd.sub_pair (Kd.sub_const _ (by decide)) (Kd.sub_slice 39 (by decide) Kd.sub_id)))))
theorem sz39 : ∀ n, (Kd.upto F39 5 [9, 39] n).sz = 5 := Kd.upto_sz (fun _ => rfl)
def k39 : Kd S39 := Kd.fix F39 5 [9, 39] sz39 (Kd.upto_E sub39)
theorem k39_open {w : World} {x : S39} {cs : List Value} (h : k39.K w x cs) : ∃ A3 c3 A4 c4, cs = [.int .i64 x.f0, .string x.f1, .int .i64 x.f2, .slice A3 x.f3.length c3, .slice A4 x.f4.length c4] ∧ x.f3.length ≤ c3 ∧ Kd.string.C w A3 x.f3.length x.f3 ∧ x.f4.length ≤ c4 ∧ k39.C w A4 x.f4.length x.f4 := by
 obtain ⟨n, h⟩ := h
 cases n with
 | zero => exact h.elim
 | succ n =>
  obtain ⟨_, _, rfl, rfl, ⟨_, _, rfl, rfl, ⟨_, _, rfl, rfl, ⟨_, _, rfl, ⟨A3, c3, rfl, l3, g3⟩, ⟨A4, c4, rfl, l4, g4⟩⟩⟩⟩⟩ := h
  exact ⟨A3, c3, A4, c4, rfl, l3, g3, l4, Kd.fix_C g4⟩
theorem k39_openM {w : World} {base : Nat} {ok : Nat → Prop} {x : S39} {cs : List Value} (h : k39.M w base ok x cs) : ∃ v3 v4, cs = [.int .i64 x.f0, .string x.f1, .int .i64 x.f2, v3, v4] ∧ Kd.string.R 9 w base ok v3 x.f3 ∧ k39.R 39 w base ok v4 x.f4 := by
 obtain ⟨n, h⟩ := h
 cases n with
 | zero => exact h.elim
 | succ n =>
  obtain ⟨_, _, rfl, rfl, ⟨_, _, rfl, rfl, ⟨_, _, rfl, rfl, ⟨_, _, rfl, ⟨v3, rfl, g3⟩, ⟨v4, rfl, g4⟩⟩⟩⟩⟩ := h
  exact ⟨v3, v4, rfl, g3, Kd.fix_R g4⟩
theorem k39_mkM (w : World) (base : Nat) (ok : Nat → Prop) (x : S39) {v3 : Value} (g3 : Kd.string.R 9 w base ok v3 x.f3) {v4 : Value} (g4 : k39.R 39 w base ok v4 x.f4) : k39.M w base ok x [.int .i64 x.f0, .string x.f1, .int .i64 x.f2, v3, v4] := by
 obtain ⟨n4, q4⟩ := Kd.fix_R_back mono39 g4
 have r4 := Kd.upto_R_le mono39 sz39 (show n4 ≤ n4 by omega) q4
 exact ⟨n4 + 1, ⟨[.int .i64 x.f0], [.string x.f1, .int .i64 x.f2, v3, v4], rfl, rfl, ⟨[.string x.f1], [.int .i64 x.f2, v3, v4], rfl, rfl, ⟨[.int .i64 x.f2], [v3, v4], rfl, rfl, ⟨[v3], [v4], rfl, ⟨v3, rfl, g3⟩, ⟨v4, rfl, r4⟩⟩⟩⟩⟩⟩
def rd_T39 (xs : List S39) (i : Int) : S39 := xs.getD i.toNat z39
theorem at_T39 {w : World} {A : Option Addr} {n : Nat} {xs : List S39} (h : Kd.C k39 w A n xs) (i : Int) (h0 : 0 ≤ i) (h1 : i < n) : ∃ ad A3 c3 A4 c4, A = some ad ∧ w.cell? (ad.add (i.toNat * 5)) = some (.int .i64 (rd_T39 xs i).f0) ∧ w.cell? ⟨(ad.add (i.toNat * 5)).block, (ad.add (i.toNat * 5)).off + 1, none⟩ = some (.string (rd_T39 xs i).f1) ∧ w.cell? ⟨(ad.add (i.toNat * 5)).block, (ad.add (i.toNat * 5)).off + 2, none⟩ = some (.int .i64 (rd_T39 xs i).f2) ∧ w.cell? ⟨(ad.add (i.toNat * 5)).block, (ad.add (i.toNat * 5)).off + 3, none⟩ = some (.slice A3 (rd_T39 xs i).f3.length c3) ∧ w.cell? ⟨(ad.add (i.toNat * 5)).block, (ad.add (i.toNat * 5)).off + 4, none⟩ = some (.slice A4 (rd_T39 xs i).f4.length c4) ∧ (rd_T39 xs i).f3.length ≤ c3 ∧ Kd.string.C w A3 (rd_T39 xs i).f3.length (rd_T39 xs i).f3 ∧ (rd_T39 xs i).f4.length ≤ c4 ∧ k39.C w A4 (rd_T39 xs i).f4.length (rd_T39 xs i).f4 := by
 obtain ⟨ad, c, e, _, hK, hc0⟩ := Kd.C_get h z39 i h0 h1
 have hc : ∀ j u, c[j]? = some u → w.cell? (ad.add (i.toNat * 5 + j)) = some u := hc0
 obtain ⟨A3, c3, A4, c4, rfl, l3, g3, l4, g4⟩ := k39_open hK
 exact ⟨ad, A3, c3, A4, c4, e, hc 0 _ rfl, by rw [← add_field _ _ 1 (by omega)]; exact hc 1 _ rfl, by rw [← add_field _ _ 2 (by omega)]; exact hc 2 _ rfl, by rw [← add_field _ _ 3 (by omega)]; exact hc 3 _ rfl, by rw [← add_field _ _ 4 (by omega)]; exact hc 4 _ rfl, l3, g3, l4, g4⟩

/-! #### struct type 41 -/
structure S41 where
 f0 : Int
 f1 : (List ByteArray)
 f2 : S39
def z41 : S41 := ⟨(0 : Int), ([] : List ByteArray), z39⟩
def k41 : Kd S41 := Kd.iso (Kd.pair (Kd.int .i64) (Kd.pair (Kd.slice 9 Kd.string) k39)) (fun x : S41 => (x.f0, x.f1, x.f2))
theorem k41_open {w : World} {x : S41} {cs : List Value} (h : k41.K w x cs) : ∃ A1 c1 A5 c5 A6 c6, cs = [.int .i64 x.f0, .slice A1 x.f1.length c1, .int .i64 x.f2.f0, .string x.f2.f1, .int .i64 x.f2.f2, .slice A5 x.f2.f3.length c5, .slice A6 x.f2.f4.length c6] ∧ x.f1.length ≤ c1 ∧ Kd.string.C w A1 x.f1.length x.f1 ∧ x.f2.f3.length ≤ c5 ∧ Kd.string.C w A5 x.f2.f3.length x.f2.f3 ∧ x.f2.f4.length ≤ c6 ∧ k39.C w A6 x.f2.f4.length x.f2.f4 := by
 obtain ⟨_, _, rfl, rfl, ⟨_, _, rfl, ⟨A1, c1, rfl, l1, g1⟩, s2⟩⟩ := h
 obtain ⟨A5, c5, A6, c6, rfl, l5, g5, l6, g6⟩ := k39_open s2
 exact ⟨A1, c1, A5, c5, A6, c6, rfl, l1, g1, l5, g5, l6, g6⟩
theorem k41_openM {w : World} {base : Nat} {ok : Nat → Prop} {x : S41} {cs : List Value} (h : k41.M w base ok x cs) : ∃ v1 v5 v6, cs = [.int .i64 x.f0, v1, .int .i64 x.f2.f0, .string x.f2.f1, .int .i64 x.f2.f2, v5, v6] ∧ Kd.string.R 9 w base ok v1 x.f1 ∧ Kd.string.R 9 w base ok v5 x.f2.f3 ∧ k39.R 39 w base ok v6 x.f2.f4 := by
 obtain ⟨_, _, rfl, rfl, ⟨_, _, rfl, ⟨v1, rfl, g1⟩, s2⟩⟩ := h
 obtain ⟨v5, v6, rfl, g5, g6⟩ := k39_openM s2
 exact ⟨v1, v5, v6, rfl, g1, g5, g6⟩
theorem k41_mkM (w : World) (base : Nat) (ok : Nat → Prop) (x : S41) {v1 : Value} (g1 : Kd.string.R 9 w base ok v1 x.f1) {v5 : Value} (g5 : Kd.string.R 9 w base ok v5 x.f2.f3) {v6 : Value} (g6 : k39.R 39 w base ok v6 x.f2.f4) : k41.M w base ok x [.int .i64 x.f0, v1, .int .i64 x.f2.f0, .string x.f2.f1, .int .i64 x.f2.f2, v5, v6] := ⟨[.int .i64 x.f0], [v1, .int .i64 x.f2.f0, .string x.f2.f1, .int .i64 x.f2.f2, v5, v6], rfl, rfl, ⟨[v1], [.int .i64 x.f2.f0, .string x.f2.f1, .int .i64 x.f2.f2, v5, v6], rfl, ⟨v1, rfl, g1⟩, (k39_mkM w base ok x.f2 g5 g6)⟩⟩
def rd_T41 (xs : List S41) (i : Int) : S41 := xs.getD i.toNat z41
theorem at_T41 {w : World} {A : Option Addr} {n : Nat} {xs : List S41} (h : Kd.C k41 w A n xs) (i : Int) (h0 : 0 ≤ i) (h1 : i < n) : ∃ ad A1 c1 A5 c5 A6 c6, A = some ad ∧ w.cell? (ad.add (i.toNat * 7)) = some (.int .i64 (rd_T41 xs i).f0) ∧ w.cell? ⟨(ad.add (i.toNat * 7)).block, (ad.add (i.toNat * 7)).off + 1, none⟩ = some (.slice A1 (rd_T41 xs i).f1.length c1) ∧ w.cell? ⟨(ad.add (i.toNat * 7)).block, (ad.add (i.toNat * 7)).off + 2, none⟩ = some (.int .i64 (rd_T41 xs i).f2.f0) ∧ w.cell? ⟨(ad.add (i.toNat * 7)).block, (ad.add (i.toNat * 7)).off + 3, none⟩ = some (.string (rd_T41 xs i).f2.f1) ∧ w.cell? ⟨(ad.add (i.toNat * 7)).block, (ad.add (i.toNat * 7)).off + 4, none⟩ = some (.int .i64 (rd_T41 xs i).f2.f2) ∧ w.cell? ⟨(ad.add (i.toNat * 7)).block, (ad.add (i.toNat * 7)).off + 5, none⟩ = some (.slice A5 (rd_T41 xs i).f2.f3.length c5) ∧ w.cell? ⟨(ad.add (i.toNat * 7)).block, (ad.add (i.toNat * 7)).off + 6, none⟩ = some (.slice A6 (rd_T41 xs i).f2.f4.length c6) ∧ (rd_T41 xs i).f1.length ≤ c1 ∧ Kd.string.C w A1 (rd_T41 xs i).f1.length (rd_T41 xs i).f1 ∧ (rd_T41 xs i).f2.f3.length ≤ c5 ∧ Kd.string.C w A5 (rd_T41 xs i).f2.f3.length (rd_T41 xs i).f2.f3 ∧ (rd_T41 xs i).f2.f4.length ≤ c6 ∧ k39.C w A6 (rd_T41 xs i).f2.f4.length (rd_T41 xs i).f2.f4 := by
 obtain ⟨ad, c, e, _, hK, hc0⟩ := Kd.C_get h z41 i h0 h1
 have hc : ∀ j u, c[j]? = some u → w.cell? (ad.add (i.toNat * 7 + j)) = some u := hc0
 obtain ⟨A1, c1, A5, c5, A6, c6, rfl, l1, g1, l5, g5, l6, g6⟩ := k41_open hK
 exact ⟨ad, A1, c1, A5, c5, A6, c6, e, hc 0 _ rfl, by rw [← add_field _ _ 1 (by omega)]; exact hc 1 _ rfl, by rw [← add_field _ _ 2 (by omega)]; exact hc 2 _ rfl, by rw [← add_field _ _ 3 (by omega)]; exact hc 3 _ rfl, by rw [← add_field _ _ 4 (by omega)]; exact hc 4 _ rfl, by rw [← add_field _ _ 5 (by omega)]; exact hc 5 _ rfl, by rw [← add_field _ _ 6 (by omega)]; exact hc 6 _ rfl, l1, g1, l5, g5, l6, g6⟩

end Go.Proofs.YtgcgkcchoghkaaaDoor.G

/- PBase -/
/-
  Plain facts under the laws: wraps, sizes that are counted down, marks.
-/
namespace Go.Proofs.YtgcgkcchoghkaaaDoor.G
open Go.RowKit Go.Proofs.YtgcgkcchoghkaaaDoorW.PrintWords Go.Proofs.YtgcgkcchoghkaaaDoorW.PrintLast Go.Proofs.YtgcgkcchoghkaaaDoorW.PrintMore
set_option linter.unusedVariables false
set_option linter.unusedSimpArgs false

theorem w64 {x : Int} (h : -9223372036854775808 ≤ x) (h' : x ≤ 9223372036854775807) : wrap64 x = x := by unfold wrap64; omega
theorem ev_if_pos {α : Type} {c : Prop} [Decidable c] {g f : Nat → Option α} {r : α} (h : c) (k : Ev g r) : Ev (fun n => if c then g n else f n) r := Ev.congr (fun n => if_pos h) k
theorem ev_if_neg {α : Type} {c : Prop} [Decidable c] {g f : Nat → Option α} {r : α} (h : ¬ c) (k : Ev f r) : Ev (fun n => if c then g n else f n) r := Ev.congr (fun n => if_neg h) k
theorem ev_some {α : Type} {a r : α} (h : a = r) : Ev (fun _ => some a) r := h ▸ Ev.now r
theorem ev_rw {α : Type} {g : Nat → Option α} {a b : α} (h : Ev g a) (e : a = b) : Ev g b := e ▸ h
theorem ev_now {α : Type} {o : Option α} {r : α} (h : o = some r) : Ev (fun _ => o) r := by rw [h]; exact Ev.now r

theorem take_set_succ {α : Type} (ys : List α) (i : Nat) (h : i < ys.length) (a : α) : (ys.set i a).take (i + 1) = ys.take i ++ [a] := by
  rw [List.take_succ_eq_append_getElem (by simpa using h), List.take_set_of_le (Nat.le_refl i), List.getElem_set_self]
/-- A size is taken off what is left; -1 where it is more. -/
def szR (left : Int) (tot : Nat) : Int := if (tot : Int) ≤ left then left - tot else -1
theorem szR_nonneg {left : Int} {tot : Nat} (h : 0 ≤ szR left tot) : (tot : Int) ≤ left := by unfold szR at h; split at h <;> omega
theorem szR_add {left : Int} (h : 0 ≤ left) (a b : Nat) : szR left (a + b) = if szR left a < 0 then -1 else szR (szR left a) b := by
  unfold szR
  by_cases h1 : (a : Int) ≤ left
  · simp only [if_pos h1]
    rw [if_neg (by omega : ¬ left - (a : Int) < 0)]
    by_cases h2 : ((a + b : Nat) : Int) ≤ left
    · rw [if_pos h2, if_pos (by omega)]; omega
    · rw [if_neg h2, if_neg (by omega)]
  · simp only [if_neg h1]
    rw [if_neg (by omega : ¬ ((a + b : Nat) : Int) ≤ left), if_pos (by omega)]
theorem szR_le {left : Int} (h : 0 ≤ left) (a : Nat) : szR left a ≤ left ∧ -1 ≤ szR left a := by unfold szR; split <;> omega
theorem szR_neg {left : Int} {a : Nat} (h : left < a) : szR left a = -1 := by unfold szR; rw [if_neg (by omega)]
theorem szR_pos {left : Int} {a : Nat} (h : (a : Int) ≤ left) : szR left a = left - a := by unfold szR; rw [if_pos h]
theorem szR_zero {left : Int} (h : 0 ≤ left) : szR left 0 = left := by rw [szR_pos (by simpa using h)]; simp

theorem le_sum_map {α : Type} (f : α → Nat) : ∀ {xs : List α} {x : α}, x ∈ xs → f x ≤ (xs.map f).sum
  | y :: ys, x, h => by
    rw [List.map_cons, List.sum_cons]
    rcases List.mem_cons.1 h with rfl | h
    · omega
    · have := le_sum_map f h; omega
/-! ### loops -/
theorem wsucc {i n : Nat} (h : i < n) (hn : n ≤ 9223372036854775807) : wrap64 ((i : Int) + 1) = ((i + 1 : Nat) : Int) := by rw [w64 (by omega) (by omega)]; rfl
theorem wpred {i n : Nat} (h0 : 0 < i) (h : i < n) (hn : n ≤ 9223372036854775807) : wrap64 ((i : Int) - 1) = ((i - 1 : Nat) : Int) := by rw [w64 (by omega) (by omega)]; omega
def allN (n : Nat) (ok : Nat → Bool) : Bool := (List.range n).all ok
theorem allN_true {n : Nat} {ok : Nat → Bool} : allN n ok = true ↔ ∀ i, i < n → ok i = true := by simp [allN]
/-- A loop that answers false at the first place that is not right, and fin behind the last. -/
theorem loop_all {g : Nat → Int → Option Bool} (n : Nat) (ok : Nat → Bool) (fin : Bool) (h1 : ∀ i, i < n → ok i = true → ∀ r, Ev (fun k => g k ((i + 1 : Nat) : Int)) r → Ev (fun k => g k (i : Int)) r)
    (h2 : ∀ i, i < n → ok i = false → Ev (fun k => g k (i : Int)) false) (h3 : Ev (fun k => g k (n : Int)) fin) : Ev (fun k => g k 0) (allN n ok && fin) := by
  have key : ∀ d i, i + d = n → (∀ j, j < i → ok j = true) → Ev (fun k => g k (i : Int)) (allN n ok && fin) := by
    intro d
    induction d with
    | zero =>
      intro i hi hok
      obtain rfl : i = n := by omega
      rw [allN_true.2 hok, Bool.true_and]
      exact h3
    | succ d ih =>
      intro i hi hok
      cases hc : ok i with
      | true => exact h1 i (by omega) hc _ (ih (i + 1) (by omega) (fun j hj => by rcases Nat.lt_succ_iff_lt_or_eq.1 hj with h | rfl; exact hok j h; exact hc))
      | false =>
        have : allN n ok = false := by
          rw [← Bool.not_eq_true, allN_true]
          intro h
          rw [h i (by omega)] at hc
          cases hc
        rw [this, Bool.false_and]
        exact h2 i (by omega) hc
  exact key n 0 (by omega) (by intro j hj; omega)
/-- A search: the first place that is found says what is answered. -/
theorem loop_find {α : Type} {g : Nat → Int → Option α} (n : Nat) (ok : Nat → Bool) (at_ : Nat → α) (fin : α) (h1 : ∀ i, i < n → ok i = false → ∀ r, Ev (fun k => g k ((i + 1 : Nat) : Int)) r → Ev (fun k => g k (i : Int)) r)
    (h2 : ∀ i, i < n → ok i = true → Ev (fun k => g k (i : Int)) (at_ i)) (h3 : Ev (fun k => g k (n : Int)) fin) : Ev (fun k => g k 0) (((List.range n).find? ok).elim fin at_) := by
  have key : ∀ d i, i + d = n → Ev (fun k => g k (i : Int)) (((List.range' i d).find? ok).elim fin at_) := by
    intro d
    induction d with
    | zero =>
      intro i hi
      obtain rfl : i = n := by omega
      exact h3
    | succ d ih =>
      intro i hi
      rw [List.range'_succ]
      cases hc : ok i with
      | true => rw [List.find?_cons_of_pos hc]; exact h2 i (by omega) hc
      | false => rw [List.find?_cons_of_neg (by simp [hc])]; exact h1 i (by omega) hc _ (ih (i + 1) (by omega))
  rw [List.range_eq_range']
  exact key n 0 (by omega)
end Go.Proofs.YtgcgkcchoghkaaaDoor.G

/- PByte -/
/-
  Texts as lists of bytes.
-/
namespace Go.Proofs.YtgcgkcchoghkaaaDoor.G
open Go.RowKit Go.Proofs.YtgcgkcchoghkaaaDoorW.PrintWords Go.Proofs.YtgcgkcchoghkaaaDoorW.PrintLast Go.Proofs.YtgcgkcchoghkaaaDoorW.PrintMore
set_option linter.unusedVariables false
set_option linter.unusedSimpArgs false
def mkb (l : List UInt8) : ByteArray := ⟨l.toArray⟩
theorem mkb_data (l : List UInt8) : (mkb l).data.toList = l := rfl
theorem bt_byte (s : ByteArray) (c : UInt8) {i : Nat} (h : i < s.data.toList.length) : (bt s (i : Int) = (c.toNat : Int)) ↔ s.data.toList[i] = c := by
  have hs : i < s.size := by rw [Array.length_toList] at h; exact h
  have e : bt s (i : Int) = ((s.data.toList[i]'h).toNat : Int) := by
    unfold bt
    rw [dif_pos (by rw [Int.toNat_natCast]; exact hs)]
    rfl
  rw [e]
  constructor
  · intro h2; exact UInt8.toNat_inj.1 (by omega)
  · intro h2; rw [h2]
theorem size_data (s : ByteArray) : s.size = s.data.toList.length := by rw [Array.length_toList]; rfl
end Go.Proofs.YtgcgkcchoghkaaaDoor.G

/- GKShape -/
/-
  A variable of the library's own that some calls read: its cell holds some number.
-/
namespace Go.Proofs.YtgcgkcchoghkaaaDoor.G
open Go.RowKit Go.Proofs.YtgcgkcchoghkaaaDoorW.PrintWords Go.Proofs.YtgcgkcchoghkaaaDoorW.PrintLast Go.Proofs.YtgcgkcchoghkaaaDoorW.PrintMore
set_option linter.unusedVariables false
def SH (w : World) : Prop := ∃ m, w.cell? ⟨0, 0, none⟩ = some (.int .i64 m)
theorem SH.below {w W : World} (h : SH w) (hb : Below w.heap.size w W) : SH W := by
  obtain ⟨m, hm⟩ := h
  exact ⟨m, pw_cell_below hb hm⟩
theorem SH.mv {w W W' : World} (h : SH w) (hb : Aside0 (Below w.heap.size w W)) [q : Gr W W'] : SH W' := h.below (qB hb)
theorem SH.of {w : World} (h : w.ShapedOpen Tryd.prog) : SH w :=
  cell_of_shapedOpen_int h (t := 3) (zero := #[.int .i64 0]) (of_decide_eq_true (by kernel_rfl)) (by kernel_rfl) rfl (by kernel_rfl) (by kernel_rfl) Tryd.underlying3
end Go.Proofs.YtgcgkcchoghkaaaDoor.G

/- G64 -/
-- Laid by wip/g/gprint.py out of the translation, by the kit's print program. Lean checks it.
namespace Go.Proofs.YtgcgkcchoghkaaaDoor.G
open Go.RowKit Go.Proofs.YtgcgkcchoghkaaaDoorW.PrintWords Go.Proofs.YtgcgkcchoghkaaaDoorW.PrintLast Go.Proofs.YtgcgkcchoghkaaaDoorW.PrintMore
attribute [local go_sem] max2_int min2_int max_two min_two max_three min_three max_four min_four   -- for this text's walks alone
set_option linter.unusedVariables false
set_option linter.unusedSimpArgs false

/-! ### strings_ReplaceAll: function 64 -/
--IMPORT Derived.Test.YtgcgkcchoghkaaaDoorShelf
--IMPORT Derived.Test.YtgcgkcchoghkaaaDoorGKShape
def strings_ReplaceAll.f (a0 : ByteArray) (a1 : ByteArray) (a2 : ByteArray) : Option ByteArray :=
  if a0.size < 4294967281 ∧ 1 ≤ a1.size ∧ a0.size + Lib.countB a0 a1 * a2.size ≤ 140737488355328 then some ⟨(Lib.replaceAll a0.data.toList a1.data.toList a2.data.toList).toArray⟩ else none
theorem strings_ReplaceAll.calls (a0 : ByteArray) (a1 : ByteArray) (a2 : ByteArray) (r : ByteArray) (w : World) (hsh_ : SH w) (h : strings_ReplaceAll.f a0 a1 a2 = some r) :
    Calls Tryd.prog 64 #[.string a0, .string a1, .string a2] w fun e w' => e = .returned (.string r) ∧ Below w.heap.size w w' := by
  unfold strings_ReplaceAll.f at h
  obtain ⟨m, hm⟩ := hsh_
  by_cases hl : a0.size < 4294967281 ∧ 1 ≤ a1.size ∧ a0.size + Lib.countB a0 a1 * a2.size ≤ 140737488355328
  · rw [if_pos hl] at h
    obtain rfl := Option.some.inj h
    exact Tryd.strings_ReplaceAll a0 a1 a2 m w hl.1 hm hl.2.1 hl.2.2
  · rw [if_neg hl] at h
    cases h

end Go.Proofs.YtgcgkcchoghkaaaDoor.G

/- G52 -/
-- Laid by wip/g/gprint.py out of the translation, by the kit's print program. Lean checks it.
namespace Go.Proofs.YtgcgkcchoghkaaaDoor.G
open Go.RowKit Go.Proofs.YtgcgkcchoghkaaaDoorW.PrintWords Go.Proofs.YtgcgkcchoghkaaaDoorW.PrintLast Go.Proofs.YtgcgkcchoghkaaaDoorW.PrintMore
attribute [local go_sem] max2_int min2_int max_two min_two max_three min_three max_four min_four   -- for this text's walks alone
set_option linter.unusedVariables false
set_option linter.unusedSimpArgs false

--IMPORT Derived.Test.YtgcgkcchoghkaaaDoorGKShape
/-! ### impl_quoted: function 52 -/
def impl_quoted.f (a0 : ByteArray) : Option (ByteArray) := (strings_ReplaceAll.f a0 (⟨#[92]⟩ : ByteArray) (⟨#[92, 92]⟩ : ByteArray)).bind fun t291 => ((strings_ReplaceAll.f t291 (⟨#[34]⟩ : ByteArray) (⟨#[92, 34]⟩ : ByteArray)).bind fun t292 => (if 1 + t292.size ≤ 9223372036854775807 then (if ((⟨#[34]⟩ : ByteArray) ++ t292).size + 1 ≤ 9223372036854775807 then (some (((⟨#[34]⟩ : ByteArray) ++ t292) ++ (⟨#[34]⟩ : ByteArray))) else (none)) else (none)))
set_option maxHeartbeats 8000000 in
set_option maxRecDepth 100000 in
theorem impl_quoted.calls (a0 : ByteArray) (r : ByteArray) (w : World) (hsh_ : SH w) (h : impl_quoted.f a0 = some r) :
    Calls Tryd.prog 52 #[.string a0] w fun e w' => e = .returned (.string r) ∧ Below w.heap.size w w' := by
  have HB := Aside0.mk (Below.refl w.heap.size w)
  have H : ((strings_ReplaceAll.f a0 (⟨#[92]⟩ : ByteArray) (⟨#[92, 92]⟩ : ByteArray)).bind fun t291 => ((strings_ReplaceAll.f t291 (⟨#[34]⟩ : ByteArray) (⟨#[92, 34]⟩ : ByteArray)).bind fun t292 => (if 1 + t292.size ≤ 9223372036854775807 then (if ((⟨#[34]⟩ : ByteArray) ++ t292).size + 1 ≤ 9223372036854775807 then (some (((⟨#[34]⟩ : ByteArray) ++ t292) ++ (⟨#[34]⟩ : ByteArray))) else (none)) else (none)))) = some r := h
  clear h
  replace H := Option.bind_eq_some_iff.mp H
  obtain ⟨t291, A20, H⟩ := H
  replace H : ((strings_ReplaceAll.f t291 (⟨#[34]⟩ : ByteArray) (⟨#[92, 34]⟩ : ByteArray)).bind fun t292 => (if 1 + t292.size ≤ 9223372036854775807 then (if ((⟨#[34]⟩ : ByteArray) ++ t292).size + 1 ≤ 9223372036854775807 then (some (((⟨#[34]⟩ : ByteArray) ++ t292) ++ (⟨#[34]⟩ : ByteArray))) else (none)) else (none))) = some r := H
  have A2 := Aside0.mk A20
  clear A20
  replace H := Option.bind_eq_some_iff.mp H
  obtain ⟨t292, A30, H⟩ := H
  replace H : (if 1 + t292.size ≤ 9223372036854775807 then (if ((⟨#[34]⟩ : ByteArray) ++ t292).size + 1 ≤ 9223372036854775807 then (some (((⟨#[34]⟩ : ByteArray) ++ t292) ++ (⟨#[34]⟩ : ByteArray))) else (none)) else (none)) = some r := H
  have A3 := Aside0.mk A30
  clear A30
  by_cases c4 : 1 + t292.size ≤ 9223372036854775807
  · rw [if_pos c4] at H
    have c4b0 := eq_true c4
    have c4b1 : decide (1 + t292.size ≤ 9223372036854775807) = true := decide_eq_true c4
    try have c4b2 : (9223372036854775807 < 1 + t292.size) = False := eq_false (Nat.not_lt.2 c4)
    by_cases c5 : ((⟨#[34]⟩ : ByteArray) ++ t292).size + 1 ≤ 9223372036854775807
    · rw [if_pos c5] at H
      have c5b0 := eq_true c5
      have c5b1 : decide (((⟨#[34]⟩ : ByteArray) ++ t292).size + 1 ≤ 9223372036854775807) = true := decide_eq_true c5
      try have c5b2 : (9223372036854775807 < ((⟨#[34]⟩ : ByteArray) ++ t292).size + 1) = False := eq_false (Nat.not_lt.2 c5)
      have c5z0 : ((⟨#[34]⟩ : ByteArray) ++ t292).size < 9223372036854775807 := by have h_ := c5; simp only [ByteArray.size_append] at h_ ⊢; first | omega | (simp only [ByteArray.size] at h_ ⊢; simp at h_ ⊢; omega)
      have c5z0a := eq_true c5z0
      have c5z0b := decide_eq_true c5z0
      have c5z0c : (9223372036854775807 ≤ ((⟨#[34]⟩ : ByteArray) ++ t292).size) = False := eq_false (by omega)
      have c5z1 : 1 + t292.size < 9223372036854775807 := by have h_ := c5; simp only [ByteArray.size_append] at h_ ⊢; first | omega | (simp only [ByteArray.size] at h_ ⊢; simp at h_ ⊢; omega)
      have c5z1a := eq_true c5z1
      have c5z1b := decide_eq_true c5z1
      have c5z1c : (9223372036854775807 ≤ 1 + t292.size) = False := eq_false (by omega)
      have c5z2 : 1 + t292.size + 1 ≤ 9223372036854775807 := by have h_ := c5; simp only [ByteArray.size_append] at h_ ⊢; first | omega | (simp only [ByteArray.size] at h_ ⊢; simp at h_ ⊢; omega)
      have c5z2a := eq_true c5z2
      have c5z2b := decide_eq_true c5z2
      have c5z2c : (9223372036854775807 < 1 + t292.size + 1) = False := eq_false (by omega)
      obtain rfl := Option.some.inj H
      go_enter Tryd.func52, Tryd.ntmps52
      go_wp2_with (first | ((with_reducible refine gate_callee (f := 64) rfl ?_); refine goesL_ (some 4) rfl rfl Tryd.func64 (by kernel_rfl) rfl #[.string a0, .string (⟨#[92]⟩ : ByteArray), .string (⟨#[92, 92]⟩ : ByteArray)] rfl (by (try simp only [List.map_toArray, List.map_cons, List.map_nil]); first | done | rfl | (simp only [List.length_drop, List.length_take]; rfl)) ?_; (with_reducible refine (strings_ReplaceAll.calls a0 (⟨#[92]⟩ : ByteArray) (⟨#[92, 92]⟩ : ByteArray) t291 _ (SH.mv hsh_ HB) A2.out).mono ?_); rintro e w6 ⟨rfl, hb⟩; refine ⟨_, rfl, ?_⟩; have n0_ := Aside0.mk (below_step (by repeat (first | (with_reducible first | exact HB.out | apply below_alloc | apply pw_below_drewN | apply below_drew1) | exact HB.out)) hb); clear HB; have HB := n0_; clear n0_; (try clear hb); (try clear hb2); (try clear hk); (try clear hi)) | ((with_reducible refine gate_callee (f := 64) rfl ?_); refine goesL_ (some 5) rfl rfl Tryd.func64 (by kernel_rfl) rfl #[.string t291, .string (⟨#[34]⟩ : ByteArray), .string (⟨#[92, 34]⟩ : ByteArray)] rfl (by (try simp only [List.map_toArray, List.map_cons, List.map_nil]); first | done | rfl | (simp only [List.length_drop, List.length_take]; rfl)) ?_; (with_reducible refine (strings_ReplaceAll.calls t291 (⟨#[34]⟩ : ByteArray) (⟨#[92, 34]⟩ : ByteArray) t292 _ (SH.mv hsh_ HB) A3.out).mono ?_); rintro e w7 ⟨rfl, hb⟩; refine ⟨_, rfl, ?_⟩; have n0_ := Aside0.mk (below_step (by repeat (first | (with_reducible first | exact HB.out | apply below_alloc | apply pw_below_drewN | apply below_drew1) | exact HB.out)) hb); clear HB; have HB := n0_; clear n0_; (try clear hb); (try clear hb2); (try clear hk); (try clear hi)))
      go_ret
      exact ⟨by first | rfl | (simp [errW_none, errW_some] <;> rfl) | (simp [*, errW_none, errW_some] <;> rfl), by repeat (first | (with_reducible first | exact HB.out | apply below_alloc | apply pw_below_drewN | apply below_drew1) | exact HB.out)⟩
    · rw [if_neg c5] at H
      exact absurd H (by simp)
  · rw [if_neg c4] at H
    exact absurd H (by simp)

end Go.Proofs.YtgcgkcchoghkaaaDoor.G

/- G23 -/
-- Laid by wip/g/gprint.py out of the translation, by the kit's print program. Lean checks it.
namespace Go.Proofs.YtgcgkcchoghkaaaDoor.G
open Go.RowKit Go.Proofs.YtgcgkcchoghkaaaDoorW.PrintWords Go.Proofs.YtgcgkcchoghkaaaDoorW.PrintLast Go.Proofs.YtgcgkcchoghkaaaDoorW.PrintMore
attribute [local go_sem] max2_int min2_int max_two min_two max_three min_three max_four min_four   -- for this text's walks alone
set_option linter.unusedVariables false
set_option linter.unusedSimpArgs false

/-! ### spec_l4Quoted: function 23 -/
def spec_l4Quoted.l0 : Nat → ByteArray → List Int → Int → Option (ByteArray)
 | 0, _, _, _ => none
 | k + 1, x0, x3, x4 => if x4 < (x0.size : Int) then (if 0 ≤ x4 then (if (bt x0 x4) = 34 then (if x3.length < 140737488355328 then ((some (x3 ++ [92] : List Int)).bind fun y146 => (if y146.length < 140737488355328 then (spec_l4Quoted.l0 k x0 (y146 ++ [bt x0 x4]) (wrap64 (x4 + 1))) else (none))) else (none)) else (if (bt x0 x4) = 92 then (if x3.length < 140737488355328 then ((some (x3 ++ [92] : List Int)).bind fun y152 => (if y152.length < 140737488355328 then (spec_l4Quoted.l0 k x0 (y152 ++ [bt x0 x4]) (wrap64 (x4 + 1))) else (none))) else (none)) else (if x3.length < 140737488355328 then (spec_l4Quoted.l0 k x0 (x3 ++ [bt x0 x4]) (wrap64 (x4 + 1))) else (none)))) else (none)) else (if x3.length < 140737488355328 then (some (strOfNums (x3 ++ [34]))) else (none))
def spec_l4Quoted.f (k : Nat) (a0 : ByteArray) : Option (ByteArray) := spec_l4Quoted.l0 k a0 (([34] : List Int)) 0
set_option maxHeartbeats 8000000 in
set_option maxRecDepth 100000 in
theorem spec_l4Quoted.calls (k : Nat) (a0 : ByteArray) (r : ByteArray) (w : World) (h : spec_l4Quoted.f k a0 = some r) :
  Calls Tryd.prog 23 #[.string a0] w fun e w' => e = .returned (.string r) ∧ Below w.heap.size w w' := by
 have HB := Aside0.mk (Below.refl w.heap.size w)
 unfold spec_l4Quoted.f at h; have H := h
 clear h
 obtain ⟨y143, hy143⟩ : ∃ y_ : List Int, y_ = (([34] : List Int)) := ⟨_, rfl⟩
 replace H : (spec_l4Quoted.l0 k a0 y143 0) = some r := by first | (rw [hy143]; with_reducible exact H) | (have H2_ := (Option.bind_some _ _).symm.trans H; rw [hy143]; with_reducible exact H2_) | (have H2_ := (Option.bind_some _ _).symm.trans H; with_reducible exact H2_) | with_reducible exact H | (rw [hy143]; exact H) | exact H
 have Ny143 := Aside0.mk hy143
 clear hy143
 have H' := Aside0.mk H
 clear H
 go_enter Tryd.func23, Tryd.ntmps23
 go_wp2_with (first | ((with_reducible refine gate_dst (N := 5) rfl ?_); refine Kd.R_lit (Kd.int .u8) _ 5 ?hg (N := 5) ?hd (xs := ([34] : List Int)) (inner := [.int .u8 34]) (ok := fun _ => True) (okp := fun _ => True) ?hr ?hp (fun _ hk => hk) trivial (Below.refl _ _) (Nat.le_refl _) (by simp) ?_; (case hd => rfl); (case hg => rfl); (case hr => go_simp); (case hp => exact (Reps.one (show Kd.M (Kd.int .u8) _ _ _ 34 [.int .u8 34] from rfl) (Reps.none _ _))); intro v144 w2 ho3 hb hg_ hnew_; clear hg_ hnew_; (first | rw [← Ny143.out] at ho3 | (simp only [Int.reduceToNat] at ho3; rw [← Ny143.out] at ho3)); have n0_ := Aside0.mk (Kd.R_lower ho3 (below_size (qB HB))); have n1_ := Aside0.mk (below_step (qB HB) hb); clear HB; have HO145 := n0_; have HB := n1_; clear n0_ n1_; clear hb ho3))
 go_loopg [3, 4] k (fun kq v3 v4 w' => ∃ (x3_1 : List Int) (x4_1 : Int), v4 = .int .i64 x4_1 ∧ Aside0 (spec_l4Quoted.l0 kq a0 x3_1 x4_1 = some r) ∧ Aside0 (kq ≤ k) ∧ Aside0 (Kd.R (Kd.int .u8) 5 w' w.heap.size (fun _ => True) v3 x3_1) ∧ Aside0 (Below w.heap.size w w'))
 case atStart => exact ⟨(y143), (0), (by first | rfl | (simp; done) | (simp [*]; done)), H', ⟨Nat.le_refl _⟩, ⟨by (with_reducible repeat (first | apply Kd.R_alloc | apply Kd.R_drewN | apply Kd.R_drew)); exact HO145.out⟩, ⟨qB HB⟩⟩
 case round =>
  clear H'
  try clear c2
  try clear p2
  obtain ⟨x3_1, x4_1, rfl, HA, HK1, HO_3, HB⟩ := hrel
  cases gk with
  | zero => exact absurd HA.out (by simp [spec_l4Quoted.l0])
  | succ k1 =>
   have H := HA.out
   clear HA
   simp only [spec_l4Quoted.l0] at H
   by_cases c4 : x4_1 < (a0.size : Int)
   ·rw [if_pos c4] at H
    have c4b0 : decide (x4_1 < (a0.size : Int)) = true := decide_eq_true c4
    clear c4
    by_cases c5 : 0 ≤ x4_1
    ·rw [if_pos c5] at H
     have c5b0 : decide (0 ≤ x4_1) = true := decide_eq_true c5
     clear c5
     by_cases c7 : (bt a0 x4_1) = 34
     ·rw [if_pos c7] at H
      have c7b0 : ((bt a0 x4_1) == 34) = true := beq_iff_eq.mpr c7
      have c7b1 : ((bt a0 x4_1) != 34) = false := bne_eq_false_iff_eq.mpr c7
      clear c7
      by_cases c8 : x3_1.length < 140737488355328
      ·rw [if_pos c8] at H
       have LMc8 := Aside0.mk c8
       clear c8
       obtain ⟨y146, hy146⟩ : ∃ y_ : List Int, y_ = (x3_1 ++ [92]) := ⟨_, rfl⟩
       replace H : (if y146.length < 140737488355328 then (spec_l4Quoted.l0 k1 a0 (y146 ++ [bt a0 x4_1]) (wrap64 (x4_1 + 1))) else (none)) = some r := by first | (rw [hy146]; with_reducible exact H) | (have H2_ := (Option.bind_some _ _).symm.trans H; rw [hy146]; with_reducible exact H2_) | (have H2_ := (Option.bind_some _ _).symm.trans H; with_reducible exact H2_) | with_reducible exact H | (rw [hy146]; exact H) | exact H
       have Ny146 := Aside0.mk hy146
       clear hy146
       by_cases c10 : y146.length < 140737488355328
       ·rw [if_pos c10] at H
        have LMc10 := Aside0.mk c10
        clear c10
        obtain ⟨y149, hy149⟩ : ∃ y_ : List Int, y_ = (y146 ++ [bt a0 x4_1]) := ⟨_, rfl⟩
        replace H : (spec_l4Quoted.l0 k1 a0 y149 (wrap64 (x4_1 + 1))) = some r := by first | (rw [hy149]; with_reducible exact H) | (have H2_ := (Option.bind_some _ _).symm.trans H; rw [hy149]; with_reducible exact H2_) | (have H2_ := (Option.bind_some _ _).symm.trans H; with_reducible exact H2_) | with_reducible exact H | (rw [hy149]; exact H) | exact H
        have Ny149 := Aside0.mk hy149
        clear hy149
        have H' := Aside0.mk H
        clear H
        have p6 : 0 ≤ (x4_1 : Int) := of_decide_eq_true (by first | (with_reducible assumption) | assumption)
        have q6 : x4_1 < (a0.size : Int) := of_decide_eq_true (by first | (with_reducible assumption) | assumption)
        have hx6 := bt_at a0 x4_1
        replace p6 := eq_true p6
        replace q6 := eq_true q6
        go_wp2_with (first | ((with_reducible refine gate_builtin (b := .append) (xs := #[.tmp 22, .tmp 23]) rfl ?_); at_builtin; refine Kd.R_append (Kd.int .u8) (w0 := w) w.heap.size rfl (.tmp 22) (.tmp 23) 58 5 (.int .u8 0) 1 rfl Tryd.underlying58 info5 rfl (by decide) (by omega) u3 x3_1 92 [.int .u8 92] (fun _ => True) (fun _ => False) rfl rfl ?aP (fun _ hk => hk.elim) ?aF ?aO ?aB ?aS ?aL ?_; (case aP => exact rfl); (case aB => exact (qB HB)); (case aF => exact (fun _ _ => trivial)); (case aO => exact (by (with_reducible repeat (first | apply Kd.R_alloc | apply Kd.R_drewN | apply Kd.R_drew)); exact HO_3.out)); (case aS => exact (below_size (qB HB))); (case aL => have := LMc8.out; omega); intro v147 w11 ho hb hg hat; rw [← Ny146.out] at ho; have n0_ := Aside0.mk (hb); have n1_ := Aside0.mk (ho); clear HB; clear HO_3; have HB := n0_; have HO148 := n1_; clear n0_ n1_; clear ho hb hg hat; have p9 : 0 ≤ (x4_1 : Int) := of_decide_eq_true (by first | (with_reducible assumption) | assumption); have q9 : x4_1 < (a0.size : Int) := of_decide_eq_true (by first | (with_reducible assumption) | assumption); have hx9 := bt_at a0 x4_1; replace p9 := eq_true p9; replace q9 := eq_true q9) | ((with_reducible refine gate_builtin (b := .append) (xs := #[.tmp 25, .tmp 29]) rfl ?_); at_builtin; refine Kd.R_append (Kd.int .u8) (w0 := w) w.heap.size rfl (.tmp 25) (.tmp 29) 58 5 (.int .u8 0) 1 rfl Tryd.underlying58 info5 rfl (by decide) (by omega) v147 y146 (bt a0 x4_1) [.int .u8 (bt a0 x4_1)] (fun _ => True) (fun _ => False) rfl rfl ?aP (fun _ hk => hk.elim) ?aF ?aO ?aB ?aS ?aL ?_; (case aP => exact rfl); (case aB => exact (qB HB)); (case aF => exact (fun _ _ => trivial)); (case aO => exact (by (with_reducible repeat (first | apply Kd.R_alloc | apply Kd.R_drewN | apply Kd.R_drew)); exact HO148.out)); (case aS => exact (below_size (qB HB))); (case aL => have := LMc10.out; omega); intro v150 w12 ho hb hg hat; rw [← Ny149.out] at ho; have n0_ := Aside0.mk (hb); have n1_ := Aside0.mk (ho); clear HB; clear HO148; have HB := n0_; have HO151 := n1_; clear n0_ n1_; clear ho hb hg hat))
        go_roundg k1
        case measure => have := HK1.out; omega
        case rel => exact ⟨(y149), (wrap64 (x4_1 + 1)), (by first | rfl | (simp; done) | (simp [*]; done)), H', ⟨by have := HK1.out; omega⟩, ⟨by (with_reducible repeat (first | apply Kd.R_alloc | apply Kd.R_drewN | apply Kd.R_drew)); exact HO151.out⟩, ⟨qB HB⟩⟩
       ·rw [if_neg c10] at H
        exact absurd H (by simp)
      ·rw [if_neg c8] at H
       exact absurd H (by simp)
     ·rw [if_neg c7] at H
      have c7b0 : ((bt a0 x4_1) == 34) = false := beq_eq_false_iff_ne.mpr c7
      have c7b1 : ((bt a0 x4_1) != 34) = true := bne_iff_ne.mpr c7
      by_cases c14 : (bt a0 x4_1) = 92
      ·rw [if_pos c14] at H
       have c14b0 : ((bt a0 x4_1) == 92) = true := beq_iff_eq.mpr c14
       have c14b1 : ((bt a0 x4_1) != 92) = false := bne_eq_false_iff_eq.mpr c14
       clear c14
       by_cases c15 : x3_1.length < 140737488355328
       ·rw [if_pos c15] at H
        have LMc15 := Aside0.mk c15
        clear c15
        obtain ⟨y152, hy152⟩ : ∃ y_ : List Int, y_ = (x3_1 ++ [92]) := ⟨_, rfl⟩
        replace H : (if y152.length < 140737488355328 then (spec_l4Quoted.l0 k1 a0 (y152 ++ [bt a0 x4_1]) (wrap64 (x4_1 + 1))) else (none)) = some r := by first | (rw [hy152]; with_reducible exact H) | (have H2_ := (Option.bind_some _ _).symm.trans H; rw [hy152]; with_reducible exact H2_) | (have H2_ := (Option.bind_some _ _).symm.trans H; with_reducible exact H2_) | with_reducible exact H | (rw [hy152]; exact H) | exact H
        have Ny152 := Aside0.mk hy152
        clear hy152
        by_cases c17 : y152.length < 140737488355328
        ·rw [if_pos c17] at H
         have LMc17 := Aside0.mk c17
         clear c17
         obtain ⟨y155, hy155⟩ : ∃ y_ : List Int, y_ = (y152 ++ [bt a0 x4_1]) := ⟨_, rfl⟩
         replace H : (spec_l4Quoted.l0 k1 a0 y155 (wrap64 (x4_1 + 1))) = some r := by first | (rw [hy155]; with_reducible exact H) | (have H2_ := (Option.bind_some _ _).symm.trans H; rw [hy155]; with_reducible exact H2_) | (have H2_ := (Option.bind_some _ _).symm.trans H; with_reducible exact H2_) | with_reducible exact H | (rw [hy155]; exact H) | exact H
         have Ny155 := Aside0.mk hy155
         clear hy155
         have H' := Aside0.mk H
         clear H
         have p6 : 0 ≤ (x4_1 : Int) := of_decide_eq_true (by first | (with_reducible assumption) | assumption)
         have q6 : x4_1 < (a0.size : Int) := of_decide_eq_true (by first | (with_reducible assumption) | assumption)
         have hx6 := bt_at a0 x4_1
         replace p6 := eq_true p6
         replace q6 := eq_true q6
         have p13 : 0 ≤ (x4_1 : Int) := of_decide_eq_true (by first | (with_reducible assumption) | assumption)
         have q13 : x4_1 < (a0.size : Int) := of_decide_eq_true (by first | (with_reducible assumption) | assumption)
         have hx13 := bt_at a0 x4_1
         replace p13 := eq_true p13
         replace q13 := eq_true q13
         go_wp2_with (first | ((with_reducible refine gate_builtin (b := .append) (xs := #[.tmp 22, .tmp 23]) rfl ?_); at_builtin; refine Kd.R_append (Kd.int .u8) (w0 := w) w.heap.size rfl (.tmp 22) (.tmp 23) 58 5 (.int .u8 0) 1 rfl Tryd.underlying58 info5 rfl (by decide) (by omega) u3 x3_1 92 [.int .u8 92] (fun _ => True) (fun _ => False) rfl rfl ?aP (fun _ hk => hk.elim) ?aF ?aO ?aB ?aS ?aL ?_; (case aP => exact rfl); (case aB => exact (qB HB)); (case aF => exact (fun _ _ => trivial)); (case aO => exact (by (with_reducible repeat (first | apply Kd.R_alloc | apply Kd.R_drewN | apply Kd.R_drew)); exact HO_3.out)); (case aS => exact (below_size (qB HB))); (case aL => have := LMc15.out; omega); intro v153 w18 ho hb hg hat; rw [← Ny152.out] at ho; have n0_ := Aside0.mk (hb); have n1_ := Aside0.mk (ho); clear HB; clear HO_3; have HB := n0_; have HO154 := n1_; clear n0_ n1_; clear ho hb hg hat; have p16 : 0 ≤ (x4_1 : Int) := of_decide_eq_true (by first | (with_reducible assumption) | assumption); have q16 : x4_1 < (a0.size : Int) := of_decide_eq_true (by first | (with_reducible assumption) | assumption); have hx16 := bt_at a0 x4_1; replace p16 := eq_true p16; replace q16 := eq_true q16) | ((with_reducible refine gate_builtin (b := .append) (xs := #[.tmp 25, .tmp 29]) rfl ?_); at_builtin; refine Kd.R_append (Kd.int .u8) (w0 := w) w.heap.size rfl (.tmp 25) (.tmp 29) 58 5 (.int .u8 0) 1 rfl Tryd.underlying58 info5 rfl (by decide) (by omega) v153 y152 (bt a0 x4_1) [.int .u8 (bt a0 x4_1)] (fun _ => True) (fun _ => False) rfl rfl ?aP (fun _ hk => hk.elim) ?aF ?aO ?aB ?aS ?aL ?_; (case aP => exact rfl); (case aB => exact (qB HB)); (case aF => exact (fun _ _ => trivial)); (case aO => exact (by (with_reducible repeat (first | apply Kd.R_alloc | apply Kd.R_drewN | apply Kd.R_drew)); exact HO154.out)); (case aS => exact (below_size (qB HB))); (case aL => have := LMc17.out; omega); intro v156 w19 ho hb hg hat; rw [← Ny155.out] at ho; have n0_ := Aside0.mk (hb); have n1_ := Aside0.mk (ho); clear HB; clear HO154; have HB := n0_; have HO157 := n1_; clear n0_ n1_; clear ho hb hg hat))
         go_roundg k1
         case measure => have := HK1.out; omega
         case rel => exact ⟨(y155), (wrap64 (x4_1 + 1)), (by first | rfl | (simp; done) | (simp [*]; done)), H', ⟨by have := HK1.out; omega⟩, ⟨by (with_reducible repeat (first | apply Kd.R_alloc | apply Kd.R_drewN | apply Kd.R_drew)); exact HO157.out⟩, ⟨qB HB⟩⟩
        ·rw [if_neg c17] at H
         exact absurd H (by simp)
       ·rw [if_neg c15] at H
        exact absurd H (by simp)
      ·rw [if_neg c14] at H
       have c14b0 : ((bt a0 x4_1) == 92) = false := beq_eq_false_iff_ne.mpr c14
       have c14b1 : ((bt a0 x4_1) != 92) = true := bne_iff_ne.mpr c14
       by_cases c21 : x3_1.length < 140737488355328
       ·rw [if_pos c21] at H
        have LMc21 := Aside0.mk c21
        clear c21
        obtain ⟨y158, hy158⟩ : ∃ y_ : List Int, y_ = (x3_1 ++ [bt a0 x4_1]) := ⟨_, rfl⟩
        replace H : (spec_l4Quoted.l0 k1 a0 y158 (wrap64 (x4_1 + 1))) = some r := by first | (rw [hy158]; with_reducible exact H) | (have H2_ := (Option.bind_some _ _).symm.trans H; rw [hy158]; with_reducible exact H2_) | (have H2_ := (Option.bind_some _ _).symm.trans H; with_reducible exact H2_) | with_reducible exact H | (rw [hy158]; exact H) | exact H
        have Ny158 := Aside0.mk hy158
        clear hy158
        have H' := Aside0.mk H
        clear H
        have p6 : 0 ≤ (x4_1 : Int) := of_decide_eq_true (by first | (with_reducible assumption) | assumption)
        have q6 : x4_1 < (a0.size : Int) := of_decide_eq_true (by first | (with_reducible assumption) | assumption)
        have hx6 := bt_at a0 x4_1
        replace p6 := eq_true p6
        replace q6 := eq_true q6
        have p13 : 0 ≤ (x4_1 : Int) := of_decide_eq_true (by first | (with_reducible assumption) | assumption)
        have q13 : x4_1 < (a0.size : Int) := of_decide_eq_true (by first | (with_reducible assumption) | assumption)
        have hx13 := bt_at a0 x4_1
        replace p13 := eq_true p13
        replace q13 := eq_true q13
        have p20 : 0 ≤ (x4_1 : Int) := of_decide_eq_true (by first | (with_reducible assumption) | assumption)
        have q20 : x4_1 < (a0.size : Int) := of_decide_eq_true (by first | (with_reducible assumption) | assumption)
        have hx20 := bt_at a0 x4_1
        replace p20 := eq_true p20
        replace q20 := eq_true q20
        go_wp2_with (first | ((with_reducible refine gate_builtin (b := .append) (xs := #[.tmp 25, .tmp 29]) rfl ?_); at_builtin; refine Kd.R_append (Kd.int .u8) (w0 := w) w.heap.size rfl (.tmp 25) (.tmp 29) 58 5 (.int .u8 0) 1 rfl Tryd.underlying58 info5 rfl (by decide) (by omega) u3 x3_1 (bt a0 x4_1) [.int .u8 (bt a0 x4_1)] (fun _ => True) (fun _ => False) rfl rfl ?aP (fun _ hk => hk.elim) ?aF ?aO ?aB ?aS ?aL ?_; (case aP => exact rfl); (case aB => exact (qB HB)); (case aF => exact (fun _ _ => trivial)); (case aO => exact (by (with_reducible repeat (first | apply Kd.R_alloc | apply Kd.R_drewN | apply Kd.R_drew)); exact HO_3.out)); (case aS => exact (below_size (qB HB))); (case aL => have := LMc21.out; omega); intro v159 w22 ho hb hg hat; rw [← Ny158.out] at ho; have n0_ := Aside0.mk (hb); have n1_ := Aside0.mk (ho); clear HB; clear HO_3; have HB := n0_; have HO160 := n1_; clear n0_ n1_; clear ho hb hg hat))
        go_roundg k1
        case measure => have := HK1.out; omega
        case rel => exact ⟨(y158), (wrap64 (x4_1 + 1)), (by first | rfl | (simp; done) | (simp [*]; done)), H', ⟨by have := HK1.out; omega⟩, ⟨by (with_reducible repeat (first | apply Kd.R_alloc | apply Kd.R_drewN | apply Kd.R_drew)); exact HO160.out⟩, ⟨qB HB⟩⟩
       ·rw [if_neg c21] at H
        exact absurd H (by simp)
    ·rw [if_neg c5] at H
     exact absurd H (by simp)
   ·rw [if_neg c4] at H
    have c4b0 : decide (x4_1 < (a0.size : Int)) = false := decide_eq_false c4
    clear c4
    by_cases c23 : x3_1.length < 140737488355328
    ·rw [if_pos c23] at H
     have LMc23 := Aside0.mk c23
     clear c23
     obtain ⟨y161, hy161⟩ : ∃ y_ : List Int, y_ = (x3_1 ++ [34]) := ⟨_, rfl⟩
     replace H : (some (strOfNums y161)) = some r := by first | (rw [hy161]; with_reducible exact H) | (have H2_ := (Option.bind_some _ _).symm.trans H; rw [hy161]; with_reducible exact H2_) | (have H2_ := (Option.bind_some _ _).symm.trans H; with_reducible exact H2_) | with_reducible exact H | (rw [hy161]; exact H) | exact H
     have Ny161 := Aside0.mk hy161
     clear hy161
     obtain rfl := Option.some.inj H
     go_wp2_with (first | ((with_reducible refine gate_builtin (b := .append) (xs := #[.tmp 31, .tmp 32]) rfl ?_); at_builtin; refine Kd.R_append (Kd.int .u8) (w0 := w) w.heap.size rfl (.tmp 31) (.tmp 32) 58 5 (.int .u8 0) 1 rfl Tryd.underlying58 info5 rfl (by decide) (by omega) u3 x3_1 34 [.int .u8 34] (fun _ => True) (fun _ => False) rfl rfl ?aP (fun _ hk => hk.elim) ?aF ?aO ?aB ?aS ?aL ?_; (case aP => exact rfl); (case aB => exact (qB HB)); (case aF => exact (fun _ _ => trivial)); (case aO => exact (by (with_reducible repeat (first | apply Kd.R_alloc | apply Kd.R_drewN | apply Kd.R_drew)); exact HO_3.out)); (case aS => exact (below_size (qB HB))); (case aL => have := LMc23.out; omega); intro v162 w24 ho hb hg hat; rw [← Ny161.out] at ho; have n0_ := Aside0.mk (hb); have n1_ := Aside0.mk (ho); clear HB; clear HO_3; have HB := n0_; have HO163 := n1_; clear n0_ n1_; clear ho hb hg hat; have hcv25 := own_string (P := Tryd.prog) Tryd.underlying58 Tryd.underlying5 Tryd.underlying9 (Kd.own_of_R HO163.out)))
     go_ret
     exact ⟨by first | rfl | (simp [errW_none, errW_some] <;> rfl) | (simp [*, errW_none, errW_some] <;> rfl), by repeat (first | (with_reducible first | exact HB.out | apply below_alloc | apply pw_below_drewN | apply below_drew1) | exact HB.out)⟩
    ·rw [if_neg c23] at H
     exact absurd H (by simp)

end Go.Proofs.YtgcgkcchoghkaaaDoor.G

/- G53 -/
-- Laid by wip/g/gprint.py out of the translation, by the kit's print program. Lean checks it.
namespace Go.Proofs.YtgcgkcchoghkaaaDoor.G
open Go.RowKit Go.Proofs.YtgcgkcchoghkaaaDoorW.PrintWords Go.Proofs.YtgcgkcchoghkaaaDoorW.PrintLast Go.Proofs.YtgcgkcchoghkaaaDoorW.PrintMore
attribute [local go_sem] max2_int min2_int max_two min_two max_three min_three max_four min_four   -- for this text's walks alone
set_option linter.unusedVariables false
set_option linter.unusedSimpArgs false

/-! ### impl_decimal: function 53 -/
--IMPORT Derived.BigRegion
--IMPORT Derived.Handy
--IMPORT Derived.Deep.DrawnRows
def dg (d : Nat) : ByteArray := ⟨#[UInt8.ofNat (48 + d)]⟩
def decT (n : Nat) : ByteArray := if n < 10 then dg n else decT (n / 10) ++ dg (n % 10)
theorem dg_size (d : Nat) : (dg d).size = 1 := rfl
theorem decT_size : ∀ (k n : Nat), n < 10 ^ k → (decT n).size ≤ k + 1
  | 0, n, h => by
    have : n = 0 := by simpa using h
    subst this; rw [decT]; simp [dg_size]
  | k + 1, n, h => by
    rw [decT]
    split
    · rw [dg_size]; omega
    · have := decT_size k (n / 10) (by rw [Nat.pow_succ] at h; omega)
      rw [ByteArray.size_append, dg_size]; omega
theorem decT_lt {n : Nat} (h : n < 10) : decT n = dg n := by rw [decT, if_pos h]
theorem decT_ge {n : Nat} (h : ¬ n < 10) : decT n = decT (n / 10) ++ dg (n % 10) := by rw [decT, if_neg h]
theorem decT_small {n : Nat} (h : n ≤ 9223372036854775808) : (decT n).size ≤ 20 := decT_size 19 n (Nat.lt_of_le_of_lt h (by decide))
theorem enc_dg {d : Nat} (h : d < 10) : Utf8.encode (48 + (d : Int)) = dg d := by
  match d, h with
  | 0, _ => decide +kernel
  | 1, _ => decide +kernel
  | 2, _ => decide +kernel
  | 3, _ => decide +kernel
  | 4, _ => decide +kernel
  | 5, _ => decide +kernel
  | 6, _ => decide +kernel
  | 7, _ => decide +kernel
  | 8, _ => decide +kernel
  | 9, _ => decide +kernel
theorem enc_dz {z : Int} (h : 0 ≤ z ∧ z < 10) : Utf8.encode (48 + z) = dg z.toNat := by
  have e : z = (z.toNat : Int) := by omega
  rw [e]
  exact enc_dg (by omega)
theorem decZ_lt {z : Int} (h : z < 10) : decT z.toNat = dg z.toNat := decT_lt (by omega)
theorem decZ_ge {z : Int} (h : 10 ≤ z) : decT z.toNat = decT (z / 10).toNat ++ dg (z % 10).toNat := by
  rw [decT_ge (by omega), show (z / 10).toNat = z.toNat / 10 by omega, show (z % 10).toNat = z.toNat % 10 by omega]
attribute [local go_sem ↓] Go.wp_at_zero Go.wp_at_succ
theorem decimal_pos : ∀ (m : Nat) (z : Int), 0 ≤ z → z ≤ m → z ≤ 9223372036854775807 → ∀ w : World, Calls Tryd.prog 53 #[.int .i64 z] w fun e w' => e = .returned (.string (decT z.toNat)) ∧ w = w' := by
  intro m
  induction m with
  | zero =>
    intro z h0 hm hn w
    have hlt : z < 10 := by omega
    go_enter Tryd.func53, Tryd.ntmps53
    go_wp2
    go_ret
    exact ⟨by rw [decZ_lt (by omega), ← enc_dz (by omega)]; rfl, rfl⟩
  | succ m ih =>
    intro z h0 hm hn w
    by_cases hlt : z < 10
    · go_enter Tryd.func53, Tryd.ntmps53
      go_wp2
      go_ret
      exact ⟨by rw [decZ_lt (by omega), ← enc_dz (by omega)]; rfl, rfl⟩
    · have HI := Lib.hid (ih (z / 10) (by omega) (by omega) (by omega) w)
      have hsz := decT_small (n := (z / 10).toNat) (by omega)
      have HS := Lib.hid hsz
      clear ih hsz
      go_enter Tryd.func53, Tryd.ntmps53
      go_wp2_with fail
      refine HI.out.mono ?_
      rintro e w' ⟨rfl, rfl⟩
      have hsz := HS.out
      have hsum : (decT (z / 10).toNat).size + (Utf8.encode (48 + z % 10)).size ≤ 9223372036854775807 := by rw [enc_dz (by omega), dg_size]; omega
      go_wp2
      go_ret
      exact ⟨by rw [decZ_ge (z := z) (by omega), ← enc_dz (z := z % 10) (by omega)]; rfl, rfl⟩
def decS (z : Int) : ByteArray := if z < 0 then (⟨#[45]⟩ : ByteArray) ++ decT (-z).toNat else decT z.toNat
theorem decS_size {z : Int} (h : -9223372036854775808 ≤ z ∧ z ≤ 9223372036854775807) : (decS z).size ≤ 21 := by
  unfold decS
  split
  · have := decT_small (n := (-z).toNat) (by omega)
    rw [ByteArray.size_append]
    have : (⟨#[45]⟩ : ByteArray).size = 1 := rfl
    omega
  · have := decT_small (n := z.toNat) (by omega); omega
theorem decimal_all : ∀ (m : Nat) (z : Int), -z ≤ m → -9223372036854775808 ≤ z → z ≤ 9223372036854775807 → ∀ w : World, Calls Tryd.prog 53 #[.int .i64 z] w fun e w' => e = .returned (.string (decS z)) ∧ w = w' := by
  intro m
  induction m with
  | zero =>
    intro z hm hlo hhi w
    have h0 : 0 ≤ z := by omega
    have e : decS z = decT z.toNat := by unfold decS; rw [if_neg (by omega)]
    rw [e]
    exact decimal_pos z.toNat z h0 (by omega) hhi w
  | succ m ih =>
    intro z hm hlo hhi w
    by_cases h0 : 0 ≤ z
    · have e : decS z = decT z.toNat := by unfold decS; rw [if_neg (by omega)]
      rw [e]
      exact decimal_pos z.toNat z h0 (by omega) hhi w
    · have hz : z < 0 := by omega
      by_cases h10 : z > -10
      · have HI := Lib.hid (decimal_pos 10 (-z) (by omega) (by omega) (by omega) w)
        have hw1 : IntKind.i64.wrap (-z) = -z := by rw [IntKind.wrap_i64]; omega
        have hs : (decT (-z).toNat).size = 1 := by rw [decZ_lt (by omega)]; rfl
        have hsum : 1 + (decT (-z).toNat).size ≤ 9223372036854775807 := by omega
        clear ih
        go_enter Tryd.func53, Tryd.ntmps53
        go_wp2_with fail
        refine HI.out.mono ?_
        rintro e w' ⟨rfl, rfl⟩
        go_wp2
        go_ret
        exact ⟨by unfold decS; rw [if_pos hz]; rfl, rfl⟩
      · have hq0 : Int.tdiv z 10 = -((-z) / 10) := by
          have h1 : Int.tdiv (-(-z)) 10 = -((-z) / 10) := by rw [Int.neg_tdiv, Int.tdiv_eq_ediv_of_nonneg (by omega)]
          rwa [Int.neg_neg] at h1
        have hr0 : Int.tmod z 10 = -((-z) % 10) := by
          have h1 : Int.tmod (-(-z)) 10 = -((-z) % 10) := by rw [Int.neg_tmod, Int.tmod_eq_emod_of_nonneg (by omega)]
          rwa [Int.neg_neg] at h1
        obtain ⟨q, hq⟩ : ∃ q, Int.tdiv z 10 = q := ⟨_, rfl⟩
        obtain ⟨r, hr⟩ : ∃ r, Int.tmod z 10 = r := ⟨_, rfl⟩
        rw [hq] at hq0
        rw [hr] at hr0
        have HI := Lib.hid (ih q (by omega) (by omega) (by omega) w)
        have HJ := Lib.hid (decimal_pos 10 (-r) (by omega) (by omega) (by omega) w)
        have hsz := decS_size (z := q) (by omega)
        have hs1 : (decT (-r).toNat).size = 1 := by rw [decZ_lt (by omega)]; rfl
        have hsum : (decS q).size + (decT (-r).toNat).size ≤ 9223372036854775807 := by omega
        have hw1 : IntKind.i64.wrap q = q := by rw [IntKind.wrap_i64]; omega
        have hw2 : IntKind.i64.wrap (-r) = -r := by rw [IntKind.wrap_i64]; omega
        have hg : ¬ (-10 < z) := by omega
        have HQ := Lib.hid hq0
        have HR := Lib.hid hr0
        have HM := Lib.hid hm
        have HL := Lib.hid h10
        have H0 := Lib.hid h0
        clear ih hq0 hr0 hm h10 h0
        go_enter Tryd.func53, Tryd.ntmps53
        go_wp2_with fail
        refine HI.out.mono ?_
        rintro e w' ⟨rfl, rfl⟩
        go_wp2_with fail
        refine HJ.out.mono ?_
        rintro e w' ⟨rfl, rfl⟩
        go_wp2
        go_ret
        refine ⟨?_, rfl⟩
        have hq0 := HQ.out
        have hr0 := HR.out
        have h10 := HL.out
        have e1 : decS z = (⟨#[45]⟩ : ByteArray) ++ decT (-z).toNat := by unfold decS; rw [if_pos (by omega)]
        have e2 : decS q = (⟨#[45]⟩ : ByteArray) ++ decT ((-z) / 10).toNat := by unfold decS; rw [if_pos (by omega), show -q = (-z) / 10 by omega]
        have e3 : decT (-r).toNat = dg ((-z) % 10).toNat := by rw [decZ_lt (by omega), show -r = (-z) % 10 by omega]
        rw [e1, decZ_ge (z := -z) (by omega), ← ByteArray.append_assoc, ← e2, ← e3]
        rfl
def impl_decimal.f (a0 : Int) : Option ByteArray := if -9223372036854775808 ≤ a0 ∧ a0 ≤ 9223372036854775807 then some (decS a0) else none
theorem impl_decimal.calls (a0 : Int) (r : ByteArray) (w : World) (h : impl_decimal.f a0 = some r) :
    Calls Tryd.prog 53 #[.int .i64 a0] w fun e w' => e = .returned (.string r) ∧ Drawn0 w w' := by
  unfold impl_decimal.f at h
  by_cases hl : -9223372036854775808 ≤ a0 ∧ a0 ≤ 9223372036854775807
  · rw [if_pos hl] at h
    obtain rfl := Option.some.inj h
    refine (decimal_all (-a0).toNat a0 (by omega) hl.1 hl.2 w).mono ?_
    rintro e w' ⟨rfl, rfl⟩
    exact ⟨rfl, Drawn0.refl _⟩
  · rw [if_neg hl] at h
    cases h

end Go.Proofs.YtgcgkcchoghkaaaDoor.G

/- G24 -/
-- Laid by wip/g/gprint.py out of the translation, by the kit's print program. Lean checks it.
namespace Go.Proofs.YtgcgkcchoghkaaaDoor.G
open Go.RowKit Go.Proofs.YtgcgkcchoghkaaaDoorW.PrintWords Go.Proofs.YtgcgkcchoghkaaaDoorW.PrintLast Go.Proofs.YtgcgkcchoghkaaaDoorW.PrintMore
attribute [local go_sem] max2_int min2_int max_two min_two max_three min_three max_four min_four   -- for this text's walks alone
set_option linter.unusedVariables false
set_option linter.unusedSimpArgs false

/-! ### spec_l4Int: function 24 -/
mutual
def spec_l4Int.j0 : Nat → Int → ByteArray → Option (ByteArray)
  | 0, _, _ => none
  | k + 1, x3, x4 => spec_l4Int.l0 k x3 x4 (⟨#[]⟩ : ByteArray)
def spec_l4Int.l0 : Nat → Int → ByteArray → ByteArray → Option (ByteArray)
  | 0, _, _, _ => none
  | k + 1, x3, x4, x5 => if x3 ≥ 10 then ((some (([(IntKind.u64.wrap (48 + (Int.tmod x3 10))) % 256] : List Int) : List Int)).bind fun y164 => (if (strOfNums y164).size + x5.size ≤ 9223372036854775807 then (spec_l4Int.l0 k (IntKind.u64.wrap (Int.tdiv x3 10)) x4 ((strOfNums y164) ++ x5)) else (none))) else ((some (([(IntKind.u64.wrap (48 + x3)) % 256] : List Int) : List Int)).bind fun y167 => (if x4.size + (strOfNums y167).size ≤ 9223372036854775807 then (if (x4 ++ (strOfNums y167)).size + x5.size ≤ 9223372036854775807 then (some ((x4 ++ (strOfNums y167)) ++ x5)) else (none)) else (none)))
end
def spec_l4Int.f (k : Nat) (a0 : Int) : Option (ByteArray) := if a0 < 0 then (spec_l4Int.j0 k (IntKind.u64.wrap ((IntKind.u64.wrap (wrap64 (-(wrap64 (a0 + 1))))) + 1)) (⟨#[45]⟩ : ByteArray)) else (spec_l4Int.j0 k (IntKind.u64.wrap (a0)) (⟨#[]⟩ : ByteArray))
set_option maxHeartbeats 8000000 in
set_option maxRecDepth 100000 in
theorem spec_l4Int.calls (k : Nat) (a0 : Int) (r : ByteArray) (w : World) (h : spec_l4Int.f k a0 = some r) :
    Calls Tryd.prog 24 #[.int .i64 a0] w fun e w' => e = .returned (.string r) ∧ Below w.heap.size w w' := by
  have HB := Aside0.mk (Below.refl w.heap.size w)
  have H : (if a0 < 0 then (spec_l4Int.j0 k (IntKind.u64.wrap ((IntKind.u64.wrap (wrap64 (-(wrap64 (a0 + 1))))) + 1)) (⟨#[45]⟩ : ByteArray)) else (spec_l4Int.j0 k (IntKind.u64.wrap (a0)) (⟨#[]⟩ : ByteArray))) = some r := h
  clear h
  have HC2 := Aside0.mk H
  clear H
  go_enter Tryd.func24, Tryd.ntmps24
  go_upto_if 9 with (fail)
  go_cut [3, 4] (fun v3 v4 wc => ∃ (kq : Nat) (x3_1 : Int) (x4_1 : ByteArray), v3 = .int .u64 x3_1 ∧ v4 = .string x4_1 ∧ Aside0 (spec_l4Int.j0 kq x3_1 x4_1 = some r) ∧ Aside0 (kq ≤ k) ∧ Aside0 (Below w.heap.size w wc))
  case first =>
    have H := HC2.out
    clear HC2
    by_cases c3 : a0 < 0
    · rw [if_pos c3] at H
      have c3b0 : decide (a0 < 0) = true := decide_eq_true c3
      clear c3
      (first | rw [c3b0] | (simp only [i64_w, i32_w]; rw [c3b0]) | skip)
      have H' := Aside0.mk H
      clear H
      go_wp2
      go_meet
      case rel => exact ⟨_, (IntKind.u64.wrap ((IntKind.u64.wrap (wrap64 (-(wrap64 (a0 + 1))))) + 1)), ((⟨#[45]⟩ : ByteArray)), (by first | rfl | (simp; done) | (simp [*]; done)), (by first | rfl | (simp; done) | (simp [*]; done)), H', ⟨by first | omega | exact Nat.le_refl _⟩, ⟨by repeat (first | (with_reducible first | exact HB.out | apply below_alloc | apply pw_below_drewN | apply below_drew1) | exact HB.out)⟩⟩
    · rw [if_neg c3] at H
      have c3b0 : decide (a0 < 0) = false := decide_eq_false c3
      clear c3
      (first | rw [c3b0] | (simp only [i64_w, i32_w]; rw [c3b0]) | skip)
      have H' := Aside0.mk H
      clear H
      go_wp2
      go_meet
      case rel => exact ⟨_, (IntKind.u64.wrap (a0)), ((⟨#[]⟩ : ByteArray)), (by first | rfl | (simp; done) | (simp [*]; done)), (by first | rfl | (simp; done) | (simp [*]; done)), H', ⟨by first | omega | exact Nat.le_refl _⟩, ⟨by repeat (first | (with_reducible first | exact HB.out | apply below_alloc | apply pw_below_drewN | apply below_drew1) | exact HB.out)⟩⟩
  case rest =>
    clear HC2
    try clear c2
    try clear p2
    try clear c3
    try clear c3b0
    obtain ⟨kq, x3_1, x4_1, rfl, rfl, HA, HJ1, HB⟩ := hcut
    cases kq with
    | zero => exact absurd HA.out (by simp [spec_l4Int.j0])
    | succ kj1 =>
      have H := HA.out
      clear HA
      simp only [spec_l4Int.j0] at H
      have H' := Aside0.mk H
      clear H
      go_wp2
      go_loopg [3, 5] kj1 (fun kq v3 v5 w' => ∃ (x3_2 : Int) (x5_2 : ByteArray), v3 = .int .u64 x3_2 ∧ v5 = .string x5_2 ∧ Aside0 (spec_l4Int.l0 kq x3_2 x4_1 x5_2 = some r) ∧ Aside0 (kq ≤ kj1) ∧ Aside0 (Below w.heap.size w w'))
      case atStart => exact ⟨(x3_1), ((⟨#[]⟩ : ByteArray)), (by first | rfl | (simp; done) | (simp [*]; done)), (by first | rfl | (simp; done) | (simp [*]; done)), H', ⟨Nat.le_refl _⟩, ⟨by repeat (first | (with_reducible first | exact HB.out | apply below_alloc | apply pw_below_drewN | apply below_drew1) | exact HB.out)⟩⟩
      case round =>
        clear H'
        try clear c2
        try clear p2
        try clear c3
        try clear c3b0
        try clear p2
        obtain ⟨x3_2, x5_2, rfl, rfl, HA, HK2, HB⟩ := hrel
        cases gk with
        | zero => exact absurd HA.out (by simp [spec_l4Int.l0])
        | succ k2 =>
          have H := HA.out
          clear HA
          simp only [spec_l4Int.l0] at H
          by_cases c4 : x3_2 ≥ 10
          · rw [if_pos c4] at H
            have c4b0 : decide (10 ≤ x3_2) = true := decide_eq_true c4
            clear c4
            obtain ⟨y164, hy164⟩ : ∃ y_ : List Int, y_ = (([(IntKind.u64.wrap (48 + (Int.tmod x3_2 10))) % 256] : List Int)) := ⟨_, rfl⟩
            replace H : (if (strOfNums y164).size + x5_2.size ≤ 9223372036854775807 then (spec_l4Int.l0 k2 (IntKind.u64.wrap (Int.tdiv x3_2 10)) x4_1 ((strOfNums y164) ++ x5_2)) else (none)) = some r := by first | (rw [hy164]; with_reducible exact H) | (have H2_ := (Option.bind_some _ _).symm.trans H; rw [hy164]; with_reducible exact H2_) | (have H2_ := (Option.bind_some _ _).symm.trans H; with_reducible exact H2_) | with_reducible exact H | (rw [hy164]; exact H) | exact H
            have Ny164 := Aside0.mk hy164
            clear hy164
            by_cases c5 : (strOfNums y164).size + x5_2.size ≤ 9223372036854775807
            · rw [if_pos c5] at H
              have c5b0 := eq_true c5
              have c5b1 : decide ((strOfNums y164).size + x5_2.size ≤ 9223372036854775807) = true := decide_eq_true c5
              try have c5b2 : (9223372036854775807 < (strOfNums y164).size + x5_2.size) = False := eq_false (Nat.not_lt.2 c5)
              have H' := Aside0.mk H
              clear H
              go_wp2_with (first | ((with_reducible refine gate_dst (N := 21) rfl ?_); refine Kd.R_lit (Kd.int .u8) _ 5 ?hg (N := 21) ?hd (xs := ([(IntKind.u64.wrap (48 + (Int.tmod x3_2 10))) % 256] : List Int)) (inner := [.int .u8 ((IntKind.u64.wrap (48 + (Int.tmod x3_2 10))) % 256)]) (ok := fun _ => True) (okp := fun _ => True) ?hr ?hp (fun _ hk => hk) trivial (Below.refl _ _) (Nat.le_refl _) (by simp) ?_; (case hd => rfl); (case hg => rfl); (case hr => first | (go_simp; done) | (go_simp; rfl)); (case hp => exact (Reps.one (show Kd.M (Kd.int .u8) _ _ _ ((IntKind.u64.wrap (48 + (Int.tmod x3_2 10))) % 256) [.int .u8 ((IntKind.u64.wrap (48 + (Int.tmod x3_2 10))) % 256)] from rfl) (Reps.none _ _))); intro v165 w6 ho7 hb hg_ hnew_; clear hg_ hnew_; (first | rw [← Ny164.out] at ho7 | (simp only [Int.reduceToNat] at ho7; rw [← Ny164.out] at ho7)); have n0_ := Aside0.mk (Kd.R_lower ho7 (below_size (by repeat (first | (with_reducible first | exact HB.out | apply below_alloc | apply pw_below_drewN | apply below_drew1) | exact HB.out)))); have n1_ := Aside0.mk (below_step (by repeat (first | (with_reducible first | exact HB.out | apply below_alloc | apply pw_below_drewN | apply below_drew1) | exact HB.out)) hb); clear HB; have HO166 := n0_; have HB := n1_; clear n0_ n1_; clear hb ho7; have hcv8 := own_string (P := Tryd.prog) Tryd.underlying58 Tryd.underlying5 Tryd.underlying9 (Kd.own_of_R HO166.out)))
              go_roundg k2
              case measure => have := HJ1.out; have := HK2.out; omega
              case rel => exact ⟨(IntKind.u64.wrap (Int.tdiv x3_2 10)), ((strOfNums y164) ++ x5_2), (by first | rfl | (simp; done) | (simp [*]; done)), (by first | rfl | (simp; done) | (simp [*]; done)), H', ⟨by have := HJ1.out; have := HK2.out; omega⟩, ⟨by repeat (first | (with_reducible first | exact HB.out | apply below_alloc | apply pw_below_drewN | apply below_drew1) | exact HB.out)⟩⟩
            · rw [if_neg c5] at H
              exact absurd H (by simp)
          · rw [if_neg c4] at H
            have c4b0 : decide (10 ≤ x3_2) = false := decide_eq_false c4
            clear c4
            obtain ⟨y167, hy167⟩ : ∃ y_ : List Int, y_ = (([(IntKind.u64.wrap (48 + x3_2)) % 256] : List Int)) := ⟨_, rfl⟩
            replace H : (if x4_1.size + (strOfNums y167).size ≤ 9223372036854775807 then (if (x4_1 ++ (strOfNums y167)).size + x5_2.size ≤ 9223372036854775807 then (some ((x4_1 ++ (strOfNums y167)) ++ x5_2)) else (none)) else (none)) = some r := by first | (rw [hy167]; with_reducible exact H) | (have H2_ := (Option.bind_some _ _).symm.trans H; rw [hy167]; with_reducible exact H2_) | (have H2_ := (Option.bind_some _ _).symm.trans H; with_reducible exact H2_) | with_reducible exact H | (rw [hy167]; exact H) | exact H
            have Ny167 := Aside0.mk hy167
            clear hy167
            by_cases c9 : x4_1.size + (strOfNums y167).size ≤ 9223372036854775807
            · rw [if_pos c9] at H
              have c9b0 := eq_true c9
              have c9b1 : decide (x4_1.size + (strOfNums y167).size ≤ 9223372036854775807) = true := decide_eq_true c9
              try have c9b2 : (9223372036854775807 < x4_1.size + (strOfNums y167).size) = False := eq_false (Nat.not_lt.2 c9)
              by_cases c10 : (x4_1 ++ (strOfNums y167)).size + x5_2.size ≤ 9223372036854775807
              · rw [if_pos c10] at H
                have c10b0 := eq_true c10
                have c10b1 : decide ((x4_1 ++ (strOfNums y167)).size + x5_2.size ≤ 9223372036854775807) = true := decide_eq_true c10
                try have c10b2 : (9223372036854775807 < (x4_1 ++ (strOfNums y167)).size + x5_2.size) = False := eq_false (Nat.not_lt.2 c10)
                obtain rfl := Option.some.inj H
                go_wp2_with (first | ((with_reducible refine gate_dst (N := 31) rfl ?_); refine Kd.R_lit (Kd.int .u8) _ 5 ?hg (N := 31) ?hd (xs := ([(IntKind.u64.wrap (48 + x3_2)) % 256] : List Int)) (inner := [.int .u8 ((IntKind.u64.wrap (48 + x3_2)) % 256)]) (ok := fun _ => True) (okp := fun _ => True) ?hr ?hp (fun _ hk => hk) trivial (Below.refl _ _) (Nat.le_refl _) (by simp) ?_; (case hd => rfl); (case hg => rfl); (case hr => first | (go_simp; done) | (go_simp; rfl)); (case hp => exact (Reps.one (show Kd.M (Kd.int .u8) _ _ _ ((IntKind.u64.wrap (48 + x3_2)) % 256) [.int .u8 ((IntKind.u64.wrap (48 + x3_2)) % 256)] from rfl) (Reps.none _ _))); intro v168 w11 ho12 hb hg_ hnew_; clear hg_ hnew_; (first | rw [← Ny167.out] at ho12 | (simp only [Int.reduceToNat] at ho12; rw [← Ny167.out] at ho12)); have n0_ := Aside0.mk (Kd.R_lower ho12 (below_size (by repeat (first | (with_reducible first | exact HB.out | apply below_alloc | apply pw_below_drewN | apply below_drew1) | exact HB.out)))); have n1_ := Aside0.mk (below_step (by repeat (first | (with_reducible first | exact HB.out | apply below_alloc | apply pw_below_drewN | apply below_drew1) | exact HB.out)) hb); clear HB; have HO169 := n0_; have HB := n1_; clear n0_ n1_; clear hb ho12; have hcv13 := own_string (P := Tryd.prog) Tryd.underlying58 Tryd.underlying5 Tryd.underlying9 (Kd.own_of_R HO169.out)))
                go_ret
                exact ⟨by first | rfl | (simp [errW_none, errW_some] <;> rfl) | (simp [*, errW_none, errW_some] <;> rfl), by repeat (first | (with_reducible first | exact HB.out | apply below_alloc | apply pw_below_drewN | apply below_drew1) | exact HB.out)⟩
              · rw [if_neg c10] at H
                exact absurd H (by simp)
            · rw [if_neg c9] at H
              exact absurd H (by simp)

end Go.Proofs.YtgcgkcchoghkaaaDoor.G
