import Derived.Test.YtchhognpijobcaaDoorMFnExactValueTextCard0
import Derived.Lib.Hide
import Derived.Lib.SliceRun
import Derived.WalkKit
import Derived.IntWalk
import Derived.Deep.LoopGhost
import Derived.WalkLawsBesides
import Derived.Test.YtchhognpijobcaaDoorProg
import Derived.Below
import Derived.Deep.Draws
import Derived.Deep.AppendLies
import Derived.Maps.AppendAt
import Derived.OwnWalk
import Derived.Laws.BytesArg
import Derived.Laws.MakeOwn
import Derived.Laws.OwnMore
import Derived.Deep.OwnRows
import Derived.Tactics
import Derived.Lib.ConvBytes
import Derived.Laws.Slices
import Derived.KernelRfl
import Derived.RowKit3
import Derived.Deep.QuietTactic
import Derived.BigQuiet
import Derived.WideLaws
import Derived.Deep.DeepCutAuto
import Derived.Deep.CutBlock
import Derived.Deep.RegionHeld3
import Derived.Laws.Rows
import Derived.Lib.AppendStr
import Derived.ArgAppend
import Derived.Laws.IdiomCopy
import Derived.OrdersHeld
import Derived.Laws.BitsLemmas
import Derived.RowKit
import Derived.Shelf.Vars
import Derived.Test.YtchhognpijobcaaDoorShelf
import Derived.BigRegion
import Derived.Handy
import Derived.Deep.DrawnRows
import Derived.Lib.ReplaceLaws
/- GKit -/
/-
  Small words beside the print's: lists searched by a test that may lack an answer, rows that stand below a growing world.
-/
namespace Go.Proofs.YtchhognpijobcaaDoor.G
open Go.RowKit Go.Proofs.YtchhognpijobcaaDoorW.PrintWords Go.Proofs.YtchhognpijobcaaDoorW.PrintLast Go.Proofs.YtchhognpijobcaaDoorW.PrintMore
set_option linter.unusedVariables false

theorem getD_at {α : Type} {xs : List α} {k : Nat} (hk : k < xs.length) (z : α) : xs.getD k z = xs[k] := by
  rw [List.getD_eq_getElem?_getD, List.getElem?_eq_getElem hk]; rfl
section
variable {α : Type} {d : Kd α} {e base n c : Nat} {ok : Nat → Prop} {w : World} {A : Option Addr} {xs : List α}
end

/-! ### slices.DeleteFunc: what it leaves, and the state of its loop -/
def delO {α : Type} (p : α → Option Bool) : List α → Option (List α)
  | [] => some []
  | x :: xs => (p x).bind fun b => (delO p xs).bind fun ys => some (if b then ys else x :: ys)
structure DelSt {α : Type} (d : Kd α) (e : Nat) (p : α → Option Bool) (l0 r : List α) (ok : Nat → Prop) (w0 w : World) (g : Nat) (cur : Array Value) (m j : Nat) (wr : World) : Prop where
  st : ∃ (cur' : Array Value) (ys r2 : List α), ys.length = m ∧ wr.heap[g]? = some (.cells cur' e (0, 0)) ∧ cur'.size = cur.size ∧ cur'.toList.drop (j * d.sz) = cur.toList.drop (j * d.sz) ∧
    Reps (d.M wr w0.heap.size (fun k => ok k ∧ k ≠ g)) d.sz ys (cur'.toList.take (m * d.sz)) ∧ delO p (l0.drop j) = some r2 ∧ r = ys ++ r2
  kept : Kept w wr (fun k => k = g)
  below : Below w0.heap.size w0 wr
  pos : m < j
section
variable {α : Type} {d : Kd α} {e c : Nat} {p : α → Option Bool} {l0 r : List α} {ok : Nat → Prop} {w0 w wr W : World} {g m j : Nat} {cur : Array Value}
end
/-- A row of one-cell elements with an element: where its cells are. -/
theorem C_cells {α : Type} {f : α → Value} {dflt : α} {w : World} {A : Option Addr} {n : Nat} {xs : List α} (h : ReadsOf f dflt w A n xs) (h0 : 0 < xs.length) :
    ∃ bk o, A = some ⟨bk, o, none⟩ ∧ bk < w.heap.size ∧ ∀ (j : Nat) x, xs[j]? = some x → w.cell? ⟨bk, o + j, none⟩ = some (f x) := by
  obtain ⟨hl, _, hh⟩ := h
  subst hl
  obtain ⟨ad, rfl, hc⟩ := hh h0
  have h1 := hc 0 h0
  obtain ⟨bk, o, sp⟩ := ad
  have hsp : sp = none := by
    have h2 : w.cell? ⟨bk, o, sp⟩ = some (f (xs.getD 0 dflt)) := by simpa [Addr.add] using h1
    unfold World.cell? at h2
    simp only at h2
    split at h2
    · cases sp with
      | none => rfl
      | some z => simp at h2
    · simp at h2
  subst hsp
  refine ⟨bk, o, rfl, World.block_lt_of_cell? w ⟨bk, o, none⟩ (by simpa [Addr.add] using h1), fun j x hj => ?_⟩
  have hjl := (List.getElem?_eq_some_iff.1 hj).1
  have h3 := hc j hjl
  have ha : (⟨bk, o, none⟩ : Addr).add j = ⟨bk, o + j, none⟩ := by unfold Addr.add; split <;> simp_all
  rw [ha, List.getD_eq_getElem?_getD, hj] at h3
  exact h3
end Go.Proofs.YtchhognpijobcaaDoor.G

/- G0 -/
-- Laid by wip/g/gprint.py out of the translation, by the kit's print program. Lean checks it.
namespace Go.Proofs.YtchhognpijobcaaDoor.G
open Go.RowKit Go.Proofs.YtchhognpijobcaaDoorW.PrintWords Go.Proofs.YtchhognpijobcaaDoorW.PrintLast Go.Proofs.YtchhognpijobcaaDoorW.PrintMore
attribute [local go_sem] max2_int min2_int max_two min_two max_three min_three max_four min_four   -- for this text's walks alone
set_option linter.unusedVariables false
set_option linter.unusedSimpArgs false

def errW : Option Int → Value
  | none => .nilIface
  | some c => .iface 0 (.int .i64 c)
theorem errW_none : errW none = .nilIface := rfl
theorem errW_some (c : Int) : errW (some c) = .iface 0 (.int .i64 c) := rfl

theorem info5 : (Tryd.prog.info? 5).map (fun i => (i.zero, i.size, i.bytes)) = some (some (.int .u8 0), 1, 1) := by kernel_rfl
theorem info9 : (Tryd.prog.info? 9).map (fun i => (i.zero, i.size, i.bytes)) = some (some (.string ⟨#[]⟩), 1, 16) := by kernel_rfl
theorem info33 : (Tryd.prog.info? 33).map (fun i => (i.zero, i.size, i.bytes)) = some (some (.agg #[(.int .i64 0), (.string ⟨#[]⟩), (.int .i64 0), (.slice none 0 0), (.slice none 0 0)]), 5, 80) := by kernel_rfl
-- the values' own types
/-! #### struct type 28, nested in itself -/
structure S28 where
  f0 : Int
  f1 : ByteArray
  f2 : Int
  f3 : (List ByteArray)
  f4 : (List S28)
def z28 : S28 := ⟨(0 : Int), (⟨#[]⟩ : ByteArray), (0 : Int), ([] : List ByteArray), ([] : List S28)⟩
def F28 (d : Kd S28) : Kd S28 := Kd.iso (Kd.pair (Kd.int .i64) (Kd.pair Kd.string (Kd.pair (Kd.int .i64) (Kd.pair (Kd.slice 9 Kd.string) (Kd.slice 28 d))))) (fun x : S28 => (x.f0, x.f1, x.f2, x.f3, x.f4))
theorem mono28 : Kd.Mono F28 := Kd.mono_iso _ (Kd.mono_pair (Kd.mono_const _) (Kd.mono_pair (Kd.mono_const _) (Kd.mono_pair (Kd.mono_const _) (Kd.mono_pair (Kd.mono_const _) (Kd.mono_slice 28 Kd.mono_id)))))
theorem sub28 : Kd.Sub F28 [9, 28] := Kd.sub_iso _ (Kd.sub_pair (Kd.sub_const _ (by decide)) (Kd.sub_pair (Kd.sub_const _ (by decide)) (Kd.sub_pair (Kd.sub_const _ (by decide)) (Kd.sub_pair (Kd.sub_const _ (by decide)) (Kd.sub_slice 28 (by decide) Kd.sub_id)))))
theorem sz28 : ∀ n, (Kd.upto F28 5 [9, 28] n).sz = 5 := Kd.upto_sz (fun _ => rfl)
def k28 : Kd S28 := Kd.fix F28 5 [9, 28] sz28 (Kd.upto_E sub28)
theorem k28_open {w : World} {x : S28} {cs : List Value} (h : k28.K w x cs) : ∃ A3 c3 A4 c4, cs = [.int .i64 x.f0, .string x.f1, .int .i64 x.f2, .slice A3 x.f3.length c3, .slice A4 x.f4.length c4] ∧ x.f3.length ≤ c3 ∧ Kd.string.C w A3 x.f3.length x.f3 ∧ x.f4.length ≤ c4 ∧ k28.C w A4 x.f4.length x.f4 := by
  obtain ⟨n, h⟩ := h
  cases n with
  | zero => exact h.elim
  | succ n =>
    obtain ⟨_, _, rfl, rfl, ⟨_, _, rfl, rfl, ⟨_, _, rfl, rfl, ⟨_, _, rfl, ⟨A3, c3, rfl, l3, g3⟩, ⟨A4, c4, rfl, l4, g4⟩⟩⟩⟩⟩ := h
    exact ⟨A3, c3, A4, c4, rfl, l3, g3, l4, Kd.fix_C g4⟩
def rd_T28 (xs : List S28) (i : Int) : S28 := xs.getD i.toNat z28
theorem at_T28 {w : World} {A : Option Addr} {n : Nat} {xs : List S28} (h : Kd.C k28 w A n xs) (i : Int) (h0 : 0 ≤ i) (h1 : i < n) : ∃ ad A3 c3 A4 c4, A = some ad ∧ w.cell? (ad.add (i.toNat * 5)) = some (.int .i64 (rd_T28 xs i).f0) ∧ w.cell? ⟨(ad.add (i.toNat * 5)).block, (ad.add (i.toNat * 5)).off + 1, none⟩ = some (.string (rd_T28 xs i).f1) ∧ w.cell? ⟨(ad.add (i.toNat * 5)).block, (ad.add (i.toNat * 5)).off + 2, none⟩ = some (.int .i64 (rd_T28 xs i).f2) ∧ w.cell? ⟨(ad.add (i.toNat * 5)).block, (ad.add (i.toNat * 5)).off + 3, none⟩ = some (.slice A3 (rd_T28 xs i).f3.length c3) ∧ w.cell? ⟨(ad.add (i.toNat * 5)).block, (ad.add (i.toNat * 5)).off + 4, none⟩ = some (.slice A4 (rd_T28 xs i).f4.length c4) ∧ (rd_T28 xs i).f3.length ≤ c3 ∧ Kd.string.C w A3 (rd_T28 xs i).f3.length (rd_T28 xs i).f3 ∧ (rd_T28 xs i).f4.length ≤ c4 ∧ k28.C w A4 (rd_T28 xs i).f4.length (rd_T28 xs i).f4 := by
  obtain ⟨ad, c, e, _, hK, hc0⟩ := Kd.C_get h z28 i h0 h1
  have hc : ∀ j u, c[j]? = some u → w.cell? (ad.add (i.toNat * 5 + j)) = some u := hc0
  obtain ⟨A3, c3, A4, c4, rfl, l3, g3, l4, g4⟩ := k28_open hK
  exact ⟨ad, A3, c3, A4, c4, e, hc 0 _ rfl, by rw [← add_field _ _ 1 (by omega)]; exact hc 1 _ rfl, by rw [← add_field _ _ 2 (by omega)]; exact hc 2 _ rfl, by rw [← add_field _ _ 3 (by omega)]; exact hc 3 _ rfl, by rw [← add_field _ _ 4 (by omega)]; exact hc 4 _ rfl, l3, g3, l4, g4⟩

/-! #### struct type 33, nested in itself -/
structure S33 where
  f0 : Int
  f1 : ByteArray
  f2 : Int
  f3 : (List ByteArray)
  f4 : (List S33)
def z33 : S33 := ⟨(0 : Int), (⟨#[]⟩ : ByteArray), (0 : Int), ([] : List ByteArray), ([] : List S33)⟩
def F33 (d : Kd S33) : Kd S33 := Kd.iso (Kd.pair (Kd.int .i64) (Kd.pair Kd.string (Kd.pair (Kd.int .i64) (Kd.pair (Kd.slice 9 Kd.string) (Kd.slice 33 d))))) (fun x : S33 => (x.f0, x.f1, x.f2, x.f3, x.f4))
theorem mono33 : Kd.Mono F33 := Kd.mono_iso _ (Kd.mono_pair (Kd.mono_const _) (Kd.mono_pair (Kd.mono_const _) (Kd.mono_pair (Kd.mono_const _) (Kd.mono_pair (Kd.mono_const _) (Kd.mono_slice 33 Kd.mono_id)))))
theorem sub33 : Kd.Sub F33 [9, 33] := Kd.sub_iso _ (Kd.sub_pair (Kd.sub_const _ (by decide)) (Kd.sub_pair (Kd.sub_const _ (by decide)) (Kd.sub_pair (Kd.sub_const _ (by decide)) (Kd.sub_pair (Kd.sub_const _ (by decide)) (Kd.sub_slice 33 (by decide) Kd.sub_id)))))
theorem sz33 : ∀ n, (Kd.upto F33 5 [9, 33] n).sz = 5 := Kd.upto_sz (fun _ => rfl)
def k33 : Kd S33 := Kd.fix F33 5 [9, 33] sz33 (Kd.upto_E sub33)
theorem k33_open {w : World} {x : S33} {cs : List Value} (h : k33.K w x cs) : ∃ A3 c3 A4 c4, cs = [.int .i64 x.f0, .string x.f1, .int .i64 x.f2, .slice A3 x.f3.length c3, .slice A4 x.f4.length c4] ∧ x.f3.length ≤ c3 ∧ Kd.string.C w A3 x.f3.length x.f3 ∧ x.f4.length ≤ c4 ∧ k33.C w A4 x.f4.length x.f4 := by
  obtain ⟨n, h⟩ := h
  cases n with
  | zero => exact h.elim
  | succ n =>
    obtain ⟨_, _, rfl, rfl, ⟨_, _, rfl, rfl, ⟨_, _, rfl, rfl, ⟨_, _, rfl, ⟨A3, c3, rfl, l3, g3⟩, ⟨A4, c4, rfl, l4, g4⟩⟩⟩⟩⟩ := h
    exact ⟨A3, c3, A4, c4, rfl, l3, g3, l4, Kd.fix_C g4⟩
theorem k33_openM {w : World} {base : Nat} {ok : Nat → Prop} {x : S33} {cs : List Value} (h : k33.M w base ok x cs) : ∃ v3 v4, cs = [.int .i64 x.f0, .string x.f1, .int .i64 x.f2, v3, v4] ∧ Kd.string.R 9 w base ok v3 x.f3 ∧ k33.R 33 w base ok v4 x.f4 := by
  obtain ⟨n, h⟩ := h
  cases n with
  | zero => exact h.elim
  | succ n =>
    obtain ⟨_, _, rfl, rfl, ⟨_, _, rfl, rfl, ⟨_, _, rfl, rfl, ⟨_, _, rfl, ⟨v3, rfl, g3⟩, ⟨v4, rfl, g4⟩⟩⟩⟩⟩ := h
    exact ⟨v3, v4, rfl, g3, Kd.fix_R g4⟩
theorem k33_mkM (w : World) (base : Nat) (ok : Nat → Prop) (x : S33) {v3 : Value} (g3 : Kd.string.R 9 w base ok v3 x.f3) {v4 : Value} (g4 : k33.R 33 w base ok v4 x.f4) : k33.M w base ok x [.int .i64 x.f0, .string x.f1, .int .i64 x.f2, v3, v4] := by
  obtain ⟨n4, q4⟩ := Kd.fix_R_back mono33 g4
  have r4 := Kd.upto_R_le mono33 sz33 (show n4 ≤ n4 by omega) q4
  exact ⟨n4 + 1, ⟨[.int .i64 x.f0], [.string x.f1, .int .i64 x.f2, v3, v4], rfl, rfl, ⟨[.string x.f1], [.int .i64 x.f2, v3, v4], rfl, rfl, ⟨[.int .i64 x.f2], [v3, v4], rfl, rfl, ⟨[v3], [v4], rfl, ⟨v3, rfl, g3⟩, ⟨v4, rfl, r4⟩⟩⟩⟩⟩⟩
def rd_T33 (xs : List S33) (i : Int) : S33 := xs.getD i.toNat z33
theorem at_T33 {w : World} {A : Option Addr} {n : Nat} {xs : List S33} (h : Kd.C k33 w A n xs) (i : Int) (h0 : 0 ≤ i) (h1 : i < n) : ∃ ad A3 c3 A4 c4, A = some ad ∧ w.cell? (ad.add (i.toNat * 5)) = some (.int .i64 (rd_T33 xs i).f0) ∧ w.cell? ⟨(ad.add (i.toNat * 5)).block, (ad.add (i.toNat * 5)).off + 1, none⟩ = some (.string (rd_T33 xs i).f1) ∧ w.cell? ⟨(ad.add (i.toNat * 5)).block, (ad.add (i.toNat * 5)).off + 2, none⟩ = some (.int .i64 (rd_T33 xs i).f2) ∧ w.cell? ⟨(ad.add (i.toNat * 5)).block, (ad.add (i.toNat * 5)).off + 3, none⟩ = some (.slice A3 (rd_T33 xs i).f3.length c3) ∧ w.cell? ⟨(ad.add (i.toNat * 5)).block, (ad.add (i.toNat * 5)).off + 4, none⟩ = some (.slice A4 (rd_T33 xs i).f4.length c4) ∧ (rd_T33 xs i).f3.length ≤ c3 ∧ Kd.string.C w A3 (rd_T33 xs i).f3.length (rd_T33 xs i).f3 ∧ (rd_T33 xs i).f4.length ≤ c4 ∧ k33.C w A4 (rd_T33 xs i).f4.length (rd_T33 xs i).f4 := by
  obtain ⟨ad, c, e, _, hK, hc0⟩ := Kd.C_get h z33 i h0 h1
  have hc : ∀ j u, c[j]? = some u → w.cell? (ad.add (i.toNat * 5 + j)) = some u := hc0
  obtain ⟨A3, c3, A4, c4, rfl, l3, g3, l4, g4⟩ := k33_open hK
  exact ⟨ad, A3, c3, A4, c4, e, hc 0 _ rfl, by rw [← add_field _ _ 1 (by omega)]; exact hc 1 _ rfl, by rw [← add_field _ _ 2 (by omega)]; exact hc 2 _ rfl, by rw [← add_field _ _ 3 (by omega)]; exact hc 3 _ rfl, by rw [← add_field _ _ 4 (by omega)]; exact hc 4 _ rfl, l3, g3, l4, g4⟩

end Go.Proofs.YtchhognpijobcaaDoor.G

/- PBase -/
/-
  Plain facts under the laws: wraps, sizes that are counted down, marks.
-/
namespace Go.Proofs.YtchhognpijobcaaDoor.G
open Go.RowKit Go.Proofs.YtchhognpijobcaaDoorW.PrintWords Go.Proofs.YtchhognpijobcaaDoorW.PrintLast Go.Proofs.YtchhognpijobcaaDoorW.PrintMore
set_option linter.unusedVariables false
set_option linter.unusedSimpArgs false

theorem w64 {x : Int} (h : -9223372036854775808 ≤ x) (h' : x ≤ 9223372036854775807) : wrap64 x = x := by unfold wrap64; omega
theorem ev_if_pos {α : Type} {c : Prop} [Decidable c] {g f : Nat → Option α} {r : α} (h : c) (k : Ev g r) : Ev (fun n => if c then g n else f n) r := Ev.congr (fun n => if_pos h) k
theorem ev_if_neg {α : Type} {c : Prop} [Decidable c] {g f : Nat → Option α} {r : α} (h : ¬ c) (k : Ev f r) : Ev (fun n => if c then g n else f n) r := Ev.congr (fun n => if_neg h) k
theorem ev_some {α : Type} {a r : α} (h : a = r) : Ev (fun _ => some a) r := h ▸ Ev.now r
theorem ev_rw {α : Type} {g : Nat → Option α} {a b : α} (h : Ev g a) (e : a = b) : Ev g b := e ▸ h
theorem ev_now {α : Type} {o : Option α} {r : α} (h : o = some r) : Ev (fun _ => o) r := by rw [h]; exact Ev.now r

theorem take_set_succ {α : Type} (ys : List α) (i : Nat) (h : i < ys.length) (a : α) : (ys.set i a).take (i + 1) = ys.take i ++ [a] := by
  rw [List.take_succ_eq_append_getElem (by simpa using h), List.take_set_of_le (Nat.le_refl i), List.getElem_set_self]
/-- A size is taken off what is left; -1 where it is more. -/
def szR (left : Int) (tot : Nat) : Int := if (tot : Int) ≤ left then left - tot else -1
theorem szR_nonneg {left : Int} {tot : Nat} (h : 0 ≤ szR left tot) : (tot : Int) ≤ left := by unfold szR at h; split at h <;> omega
theorem szR_add {left : Int} (h : 0 ≤ left) (a b : Nat) : szR left (a + b) = if szR left a < 0 then -1 else szR (szR left a) b := by
  unfold szR
  by_cases h1 : (a : Int) ≤ left
  · simp only [if_pos h1]
    rw [if_neg (by omega : ¬ left - (a : Int) < 0)]
    by_cases h2 : ((a + b : Nat) : Int) ≤ left
    · rw [if_pos h2, if_pos (by omega)]; omega
    · rw [if_neg h2, if_neg (by omega)]
  · simp only [if_neg h1]
    rw [if_neg (by omega : ¬ ((a + b : Nat) : Int) ≤ left), if_pos (by omega)]
theorem szR_le {left : Int} (h : 0 ≤ left) (a : Nat) : szR left a ≤ left ∧ -1 ≤ szR left a := by unfold szR; split <;> omega
theorem szR_neg {left : Int} {a : Nat} (h : left < a) : szR left a = -1 := by unfold szR; rw [if_neg (by omega)]
theorem szR_pos {left : Int} {a : Nat} (h : (a : Int) ≤ left) : szR left a = left - a := by unfold szR; rw [if_pos h]
theorem szR_zero {left : Int} (h : 0 ≤ left) : szR left 0 = left := by rw [szR_pos (by simpa using h)]; simp

theorem le_sum_map {α : Type} (f : α → Nat) : ∀ {xs : List α} {x : α}, x ∈ xs → f x ≤ (xs.map f).sum
  | y :: ys, x, h => by
    rw [List.map_cons, List.sum_cons]
    rcases List.mem_cons.1 h with rfl | h
    · omega
    · have := le_sum_map f h; omega
/-! ### loops -/
theorem wsucc {i n : Nat} (h : i < n) (hn : n ≤ 9223372036854775807) : wrap64 ((i : Int) + 1) = ((i + 1 : Nat) : Int) := by rw [w64 (by omega) (by omega)]; rfl
theorem wpred {i n : Nat} (h0 : 0 < i) (h : i < n) (hn : n ≤ 9223372036854775807) : wrap64 ((i : Int) - 1) = ((i - 1 : Nat) : Int) := by rw [w64 (by omega) (by omega)]; omega
def allN (n : Nat) (ok : Nat → Bool) : Bool := (List.range n).all ok
theorem allN_true {n : Nat} {ok : Nat → Bool} : allN n ok = true ↔ ∀ i, i < n → ok i = true := by simp [allN]
/-- A loop that answers false at the first place that is not right, and fin behind the last. -/
theorem loop_all {g : Nat → Int → Option Bool} (n : Nat) (ok : Nat → Bool) (fin : Bool) (h1 : ∀ i, i < n → ok i = true → ∀ r, Ev (fun k => g k ((i + 1 : Nat) : Int)) r → Ev (fun k => g k (i : Int)) r)
    (h2 : ∀ i, i < n → ok i = false → Ev (fun k => g k (i : Int)) false) (h3 : Ev (fun k => g k (n : Int)) fin) : Ev (fun k => g k 0) (allN n ok && fin) := by
  have key : ∀ d i, i + d = n → (∀ j, j < i → ok j = true) → Ev (fun k => g k (i : Int)) (allN n ok && fin) := by
    intro d
    induction d with
    | zero =>
      intro i hi hok
      obtain rfl : i = n := by omega
      rw [allN_true.2 hok, Bool.true_and]
      exact h3
    | succ d ih =>
      intro i hi hok
      cases hc : ok i with
      | true => exact h1 i (by omega) hc _ (ih (i + 1) (by omega) (fun j hj => by rcases Nat.lt_succ_iff_lt_or_eq.1 hj with h | rfl; exact hok j h; exact hc))
      | false =>
        have : allN n ok = false := by
          rw [← Bool.not_eq_true, allN_true]
          intro h
          rw [h i (by omega)] at hc
          cases hc
        rw [this, Bool.false_and]
        exact h2 i (by omega) hc
  exact key n 0 (by omega) (by intro j hj; omega)
end Go.Proofs.YtchhognpijobcaaDoor.G

/- PByte -/
/-
  Texts as lists of bytes.
-/
namespace Go.Proofs.YtchhognpijobcaaDoor.G
open Go.RowKit Go.Proofs.YtchhognpijobcaaDoorW.PrintWords Go.Proofs.YtchhognpijobcaaDoorW.PrintLast Go.Proofs.YtchhognpijobcaaDoorW.PrintMore
set_option linter.unusedVariables false
set_option linter.unusedSimpArgs false
def mkb (l : List UInt8) : ByteArray := ⟨l.toArray⟩
theorem mkb_data (l : List UInt8) : (mkb l).data.toList = l := rfl
theorem bt_byte (s : ByteArray) (c : UInt8) {i : Nat} (h : i < s.data.toList.length) : (bt s (i : Int) = (c.toNat : Int)) ↔ s.data.toList[i] = c := by
  have hs : i < s.size := by rw [Array.length_toList] at h; exact h
  have e : bt s (i : Int) = ((s.data.toList[i]'h).toNat : Int) := by
    unfold bt
    rw [dif_pos (by rw [Int.toNat_natCast]; exact hs)]
    rfl
  rw [e]
  constructor
  · intro h2; exact UInt8.toNat_inj.1 (by omega)
  · intro h2; rw [h2]
theorem size_data (s : ByteArray) : s.size = s.data.toList.length := by rw [Array.length_toList]; rfl
end Go.Proofs.YtchhognpijobcaaDoor.G

/- GKMini -/
/-
  Short words for what printed texts say again and again: facts carried into a world that has only grown by boxes and orders.
-/
namespace Go.Proofs.YtchhognpijobcaaDoor.G
open Go.RowKit Go.Proofs.YtchhognpijobcaaDoorW.PrintWords Go.Proofs.YtchhognpijobcaaDoorW.PrintLast Go.Proofs.YtchhognpijobcaaDoorW.PrintMore
set_option linter.unusedVariables false
/-- The second world is the first one, and boxes and orders since. -/
class Gr (W W' : World) : Prop where
  out : Below W.heap.size W W'
instance Gr.refl (W : World) : Gr W W := ⟨Below.refl _ _⟩
instance Gr.alloc (W W' : World) (o : Obj) [g : Gr W W'] : Gr W (W'.alloc o) := ⟨below_then g.out g.out.size (below_alloc (Below.refl _ _) o)⟩
instance Gr.drewN (W W' : World) (n : Nat) [g : Gr W W'] : Gr W (W'.drewN n) := ⟨pw_below_drewN g.out n⟩
instance Gr.drew (W W' : World) [g : Gr W W'] : Gr W W'.drew := ⟨below_drew g.out⟩
section
variable {w W W' : World} {α : Type} {d : Kd α} {A : Option Addr} {n g gb e base : Nat} {xs : List α} {o : Obj} {v : Value} {ok : Nat → Prop}
theorem qB (h : Aside0 (Below w.heap.size w W)) [q : Gr W W'] : Below w.heap.size w W' := below_then h.out h.out.size q.out
end
section
variable {W : World} {g t : Nat} {a0 a1 a2 a3 a4 a5 a6 : Value}
end
end Go.Proofs.YtchhognpijobcaaDoor.G

/- GKShape -/
/-
  A variable of the library's own that some calls read: its cell holds some number.
-/
namespace Go.Proofs.YtchhognpijobcaaDoor.G
open Go.RowKit Go.Proofs.YtchhognpijobcaaDoorW.PrintWords Go.Proofs.YtchhognpijobcaaDoorW.PrintLast Go.Proofs.YtchhognpijobcaaDoorW.PrintMore
set_option linter.unusedVariables false
def SH (w : World) : Prop := ∃ m, w.cell? ⟨2, 0, none⟩ = some (.int .i64 m)
theorem SH.below {w W : World} (h : SH w) (hb : Below w.heap.size w W) : SH W := by
  obtain ⟨m, hm⟩ := h
  exact ⟨m, pw_cell_below hb hm⟩
theorem SH.mv {w W W' : World} (h : SH w) (hb : Aside0 (Below w.heap.size w W)) [q : Gr W W'] : SH W' := h.below (qB hb)
theorem SH.of {w : World} (h : w.ShapedOpen Tryd.prog) : SH w :=
  cell_of_shapedOpen_int h (t := 3) (zero := #[.int .i64 0]) (of_decide_eq_true (by kernel_rfl)) (by kernel_rfl) rfl (by kernel_rfl) (by kernel_rfl) Tryd.underlying3
end Go.Proofs.YtchhognpijobcaaDoor.G

/- G54 -/
-- Laid by wip/g/gprint.py out of the translation, by the kit's print program. Lean checks it.
namespace Go.Proofs.YtchhognpijobcaaDoor.G
open Go.RowKit Go.Proofs.YtchhognpijobcaaDoorW.PrintWords Go.Proofs.YtchhognpijobcaaDoorW.PrintLast Go.Proofs.YtchhognpijobcaaDoorW.PrintMore
attribute [local go_sem] max2_int min2_int max_two min_two max_three min_three max_four min_four   -- for this text's walks alone
set_option linter.unusedVariables false
set_option linter.unusedSimpArgs false

/-! ### strings_ReplaceAll: function 54 -/
--IMPORT Derived.Test.YtchhognpijobcaaDoorShelf
--IMPORT Derived.Test.YtchhognpijobcaaDoorGKShape
def strings_ReplaceAll.f (a0 : ByteArray) (a1 : ByteArray) (a2 : ByteArray) : Option ByteArray :=
  if a0.size < 4294967281 ∧ 1 ≤ a1.size ∧ a0.size + Lib.countB a0 a1 * a2.size ≤ 140737488355328 then some ⟨(Lib.replaceAll a0.data.toList a1.data.toList a2.data.toList).toArray⟩ else none
theorem strings_ReplaceAll.calls (a0 : ByteArray) (a1 : ByteArray) (a2 : ByteArray) (r : ByteArray) (w : World) (hsh_ : SH w) (h : strings_ReplaceAll.f a0 a1 a2 = some r) :
    Calls Tryd.prog 54 #[.string a0, .string a1, .string a2] w fun e w' => e = .returned (.string r) ∧ Below w.heap.size w w' := by
  unfold strings_ReplaceAll.f at h
  obtain ⟨m, hm⟩ := hsh_
  by_cases hl : a0.size < 4294967281 ∧ 1 ≤ a1.size ∧ a0.size + Lib.countB a0 a1 * a2.size ≤ 140737488355328
  · rw [if_pos hl] at h
    obtain rfl := Option.some.inj h
    exact Tryd.strings_ReplaceAll a0 a1 a2 m w hl.1 hm hl.2.1 hl.2.2
  · rw [if_neg hl] at h
    cases h

end Go.Proofs.YtchhognpijobcaaDoor.G

/- G44 -/
-- Laid by wip/g/gprint.py out of the translation, by the kit's print program. Lean checks it.
namespace Go.Proofs.YtchhognpijobcaaDoor.G
open Go.RowKit Go.Proofs.YtchhognpijobcaaDoorW.PrintWords Go.Proofs.YtchhognpijobcaaDoorW.PrintLast Go.Proofs.YtchhognpijobcaaDoorW.PrintMore
attribute [local go_sem] max2_int min2_int max_two min_two max_three min_three max_four min_four   -- for this text's walks alone
set_option linter.unusedVariables false
set_option linter.unusedSimpArgs false

--IMPORT Derived.Test.YtchhognpijobcaaDoorGKShape
/-! ### impl_quoted: function 44 -/
def impl_quoted.f (a0 : ByteArray) : Option (ByteArray) := (strings_ReplaceAll.f a0 (⟨#[92]⟩ : ByteArray) (⟨#[92, 92]⟩ : ByteArray)).bind fun t230 => ((strings_ReplaceAll.f t230 (⟨#[34]⟩ : ByteArray) (⟨#[92, 34]⟩ : ByteArray)).bind fun t231 => (if 1 + t231.size ≤ 9223372036854775807 then (if ((⟨#[34]⟩ : ByteArray) ++ t231).size + 1 ≤ 9223372036854775807 then (some (((⟨#[34]⟩ : ByteArray) ++ t231) ++ (⟨#[34]⟩ : ByteArray))) else (none)) else (none)))
set_option maxHeartbeats 8000000 in
set_option maxRecDepth 100000 in
theorem impl_quoted.calls (a0 : ByteArray) (r : ByteArray) (w : World) (hsh_ : SH w) (h : impl_quoted.f a0 = some r) :
    Calls Tryd.prog 44 #[.string a0] w fun e w' => e = .returned (.string r) ∧ Below w.heap.size w w' := by
  have HB := Aside0.mk (Below.refl w.heap.size w)
  have H : ((strings_ReplaceAll.f a0 (⟨#[92]⟩ : ByteArray) (⟨#[92, 92]⟩ : ByteArray)).bind fun t230 => ((strings_ReplaceAll.f t230 (⟨#[34]⟩ : ByteArray) (⟨#[92, 34]⟩ : ByteArray)).bind fun t231 => (if 1 + t231.size ≤ 9223372036854775807 then (if ((⟨#[34]⟩ : ByteArray) ++ t231).size + 1 ≤ 9223372036854775807 then (some (((⟨#[34]⟩ : ByteArray) ++ t231) ++ (⟨#[34]⟩ : ByteArray))) else (none)) else (none)))) = some r := h
  clear h
  replace H := Option.bind_eq_some_iff.mp H
  obtain ⟨t230, A20, H⟩ := H
  replace H : ((strings_ReplaceAll.f t230 (⟨#[34]⟩ : ByteArray) (⟨#[92, 34]⟩ : ByteArray)).bind fun t231 => (if 1 + t231.size ≤ 9223372036854775807 then (if ((⟨#[34]⟩ : ByteArray) ++ t231).size + 1 ≤ 9223372036854775807 then (some (((⟨#[34]⟩ : ByteArray) ++ t231) ++ (⟨#[34]⟩ : ByteArray))) else (none)) else (none))) = some r := H
  have A2 := Aside0.mk A20
  clear A20
  replace H := Option.bind_eq_some_iff.mp H
  obtain ⟨t231, A30, H⟩ := H
  replace H : (if 1 + t231.size ≤ 9223372036854775807 then (if ((⟨#[34]⟩ : ByteArray) ++ t231).size + 1 ≤ 9223372036854775807 then (some (((⟨#[34]⟩ : ByteArray) ++ t231) ++ (⟨#[34]⟩ : ByteArray))) else (none)) else (none)) = some r := H
  have A3 := Aside0.mk A30
  clear A30
  by_cases c4 : 1 + t231.size ≤ 9223372036854775807
  · rw [if_pos c4] at H
    have c4b0 := eq_true c4
    have c4b1 : decide (1 + t231.size ≤ 9223372036854775807) = true := decide_eq_true c4
    try have c4b2 : (9223372036854775807 < 1 + t231.size) = False := eq_false (Nat.not_lt.2 c4)
    by_cases c5 : ((⟨#[34]⟩ : ByteArray) ++ t231).size + 1 ≤ 9223372036854775807
    · rw [if_pos c5] at H
      have c5b0 := eq_true c5
      have c5b1 : decide (((⟨#[34]⟩ : ByteArray) ++ t231).size + 1 ≤ 9223372036854775807) = true := decide_eq_true c5
      try have c5b2 : (9223372036854775807 < ((⟨#[34]⟩ : ByteArray) ++ t231).size + 1) = False := eq_false (Nat.not_lt.2 c5)
      have c5z0 : ((⟨#[34]⟩ : ByteArray) ++ t231).size < 9223372036854775807 := by have h_ := c5; simp only [ByteArray.size_append] at h_ ⊢; first | omega | (simp only [ByteArray.size] at h_ ⊢; simp at h_ ⊢; omega)
      have c5z0a := eq_true c5z0
      have c5z0b := decide_eq_true c5z0
      have c5z0c : (9223372036854775807 ≤ ((⟨#[34]⟩ : ByteArray) ++ t231).size) = False := eq_false (by omega)
      have c5z1 : 1 + t231.size < 9223372036854775807 := by have h_ := c5; simp only [ByteArray.size_append] at h_ ⊢; first | omega | (simp only [ByteArray.size] at h_ ⊢; simp at h_ ⊢; omega)
      have c5z1a := eq_true c5z1
      have c5z1b := decide_eq_true c5z1
      have c5z1c : (9223372036854775807 ≤ 1 + t231.size) = False := eq_false (by omega)
      have c5z2 : 1 + t231.size + 1 ≤ 9223372036854775807 := by have h_ := c5; simp only [ByteArray.size_append] at h_ ⊢; first | omega | (simp only [ByteArray.size] at h_ ⊢; simp at h_ ⊢; omega)
      have c5z2a := eq_true c5z2
      have c5z2b := decide_eq_true c5z2
      have c5z2c : (9223372036854775807 < 1 + t231.size + 1) = False := eq_false (by omega)
      obtain rfl := Option.some.inj H
      go_enter Tryd.func44, Tryd.ntmps44
      go_wp2_with (first | ((with_reducible refine gate_callee (f := 54) rfl ?_); refine goesL_ (some 4) rfl rfl Tryd.func54 (by kernel_rfl) rfl #[.string a0, .string (⟨#[92]⟩ : ByteArray), .string (⟨#[92, 92]⟩ : ByteArray)] rfl (by (try simp only [List.map_toArray, List.map_cons, List.map_nil]); first | done | rfl | (simp only [List.length_drop, List.length_take]; rfl)) ?_; (with_reducible refine (strings_ReplaceAll.calls a0 (⟨#[92]⟩ : ByteArray) (⟨#[92, 92]⟩ : ByteArray) t230 _ (SH.mv hsh_ HB) A2.out).mono ?_); rintro e w6 ⟨rfl, hb⟩; refine ⟨_, rfl, ?_⟩; have n0_ := Aside0.mk (below_step (by repeat (first | (with_reducible first | exact HB.out | apply below_alloc | apply pw_below_drewN | apply below_drew1) | exact HB.out)) hb); clear HB; have HB := n0_; clear n0_; (try clear hb); (try clear hb2); (try clear hk); (try clear hi)) | ((with_reducible refine gate_callee (f := 54) rfl ?_); refine goesL_ (some 5) rfl rfl Tryd.func54 (by kernel_rfl) rfl #[.string t230, .string (⟨#[34]⟩ : ByteArray), .string (⟨#[92, 34]⟩ : ByteArray)] rfl (by (try simp only [List.map_toArray, List.map_cons, List.map_nil]); first | done | rfl | (simp only [List.length_drop, List.length_take]; rfl)) ?_; (with_reducible refine (strings_ReplaceAll.calls t230 (⟨#[34]⟩ : ByteArray) (⟨#[92, 34]⟩ : ByteArray) t231 _ (SH.mv hsh_ HB) A3.out).mono ?_); rintro e w7 ⟨rfl, hb⟩; refine ⟨_, rfl, ?_⟩; have n0_ := Aside0.mk (below_step (by repeat (first | (with_reducible first | exact HB.out | apply below_alloc | apply pw_below_drewN | apply below_drew1) | exact HB.out)) hb); clear HB; have HB := n0_; clear n0_; (try clear hb); (try clear hb2); (try clear hk); (try clear hi)))
      go_ret
      exact ⟨by first | rfl | (simp [errW_none, errW_some] <;> rfl) | (simp [*, errW_none, errW_some] <;> rfl), by repeat (first | (with_reducible first | exact HB.out | apply below_alloc | apply pw_below_drewN | apply below_drew1) | exact HB.out)⟩
    · rw [if_neg c5] at H
      exact absurd H (by simp)
  · rw [if_neg c4] at H
    exact absurd H (by simp)

end Go.Proofs.YtchhognpijobcaaDoor.G

/- G41 -/
-- Laid by wip/g/gprint.py out of the translation, by the kit's print program. Lean checks it.
namespace Go.Proofs.YtchhognpijobcaaDoor.G
open Go.RowKit Go.Proofs.YtchhognpijobcaaDoorW.PrintWords Go.Proofs.YtchhognpijobcaaDoorW.PrintLast Go.Proofs.YtchhognpijobcaaDoorW.PrintMore
attribute [local go_sem] max2_int min2_int max_two min_two max_three min_three max_four min_four   -- for this text's walks alone
set_option linter.unusedVariables false
set_option linter.unusedSimpArgs false

/-! ### spec_l4Quoted: function 41 -/
def spec_l4Quoted.l0 : Nat → ByteArray → List Int → Int → Option (ByteArray)
  | 0, _, _, _ => none
  | k + 1, x0, x3, x4 => if x4 < (x0.size : Int) then (if 0 ≤ x4 then (if (bt x0 x4) = 34 then (if x3.length < 140737488355328 then ((some (x3 ++ [92] : List Int)).bind fun y145 => (if y145.length < 140737488355328 then (spec_l4Quoted.l0 k x0 (y145 ++ [bt x0 x4]) (wrap64 (x4 + 1))) else (none))) else (none)) else (if (bt x0 x4) = 92 then (if x3.length < 140737488355328 then ((some (x3 ++ [92] : List Int)).bind fun y151 => (if y151.length < 140737488355328 then (spec_l4Quoted.l0 k x0 (y151 ++ [bt x0 x4]) (wrap64 (x4 + 1))) else (none))) else (none)) else (if x3.length < 140737488355328 then (spec_l4Quoted.l0 k x0 (x3 ++ [bt x0 x4]) (wrap64 (x4 + 1))) else (none)))) else (none)) else (if x3.length < 140737488355328 then (some (strOfNums (x3 ++ [34]))) else (none))
def spec_l4Quoted.f (k : Nat) (a0 : ByteArray) : Option (ByteArray) := spec_l4Quoted.l0 k a0 (([34] : List Int)) 0
set_option maxHeartbeats 8000000 in
set_option maxRecDepth 100000 in
theorem spec_l4Quoted.calls (k : Nat) (a0 : ByteArray) (r : ByteArray) (w : World) (h : spec_l4Quoted.f k a0 = some r) :
    Calls Tryd.prog 41 #[.string a0] w fun e w' => e = .returned (.string r) ∧ Below w.heap.size w w' := by
  have HB := Aside0.mk (Below.refl w.heap.size w)
  have H : (spec_l4Quoted.l0 k a0 (([34] : List Int)) 0) = some r := h
  clear h
  obtain ⟨y142, hy142⟩ : ∃ y_ : List Int, y_ = (([34] : List Int)) := ⟨_, rfl⟩
  replace H : (spec_l4Quoted.l0 k a0 y142 0) = some r := by first | (rw [hy142]; with_reducible exact H) | (have H2_ := (Option.bind_some _ _).symm.trans H; rw [hy142]; with_reducible exact H2_) | (have H2_ := (Option.bind_some _ _).symm.trans H; with_reducible exact H2_) | with_reducible exact H | (rw [hy142]; exact H) | exact H
  have Ny142 := Aside0.mk hy142
  clear hy142
  have H' := Aside0.mk H
  clear H
  go_enter Tryd.func41, Tryd.ntmps41
  go_wp2_with (first | ((with_reducible refine gate_dst (N := 5) rfl ?_); refine Kd.R_lit (Kd.int .u8) _ 5 ?hg (N := 5) ?hd (xs := ([34] : List Int)) (inner := [.int .u8 34]) (ok := fun _ => True) (okp := fun _ => True) ?hr ?hp (fun _ hk => hk) trivial (Below.refl _ _) (Nat.le_refl _) (by simp) ?_; (case hd => rfl); (case hg => rfl); (case hr => first | (go_simp; done) | (go_simp; rfl)); (case hp => exact (Reps.one (show Kd.M (Kd.int .u8) _ _ _ 34 [.int .u8 34] from rfl) (Reps.none _ _))); intro v143 w2 ho3 hb hg_ hnew_; clear hg_ hnew_; (first | rw [← Ny142.out] at ho3 | (simp only [Int.reduceToNat] at ho3; rw [← Ny142.out] at ho3)); have n0_ := Aside0.mk (Kd.R_lower ho3 (below_size (by repeat (first | (with_reducible first | exact HB.out | apply below_alloc | apply pw_below_drewN | apply below_drew1) | exact HB.out)))); have n1_ := Aside0.mk (below_step (by repeat (first | (with_reducible first | exact HB.out | apply below_alloc | apply pw_below_drewN | apply below_drew1) | exact HB.out)) hb); clear HB; have HO144 := n0_; have HB := n1_; clear n0_ n1_; clear hb ho3))
  go_loopg [3, 4] k (fun kq v3 v4 w' => ∃ (x3_1 : List Int) (x4_1 : Int), v4 = .int .i64 x4_1 ∧ Aside0 (spec_l4Quoted.l0 kq a0 x3_1 x4_1 = some r) ∧ Aside0 (kq ≤ k) ∧ Aside0 (Kd.R (Kd.int .u8) 5 w' w.heap.size (fun _ => True) v3 x3_1) ∧ Aside0 (Below w.heap.size w w'))
  case atStart => exact ⟨(y142), (0), (by first | rfl | (simp; done) | (simp [*]; done)), H', ⟨Nat.le_refl _⟩, ⟨by (with_reducible repeat (first | apply Kd.R_alloc | apply Kd.R_drewN | apply Kd.R_drew)); exact HO144.out⟩, ⟨by repeat (first | (with_reducible first | exact HB.out | apply below_alloc | apply pw_below_drewN | apply below_drew1) | exact HB.out)⟩⟩
  case round =>
    clear H'
    try clear p2
    obtain ⟨x3_1, x4_1, rfl, HA, HK1, HO_3, HB⟩ := hrel
    cases gk with
    | zero => exact absurd HA.out (by simp [spec_l4Quoted.l0])
    | succ k1 =>
      have H := HA.out
      clear HA
      simp only [spec_l4Quoted.l0] at H
      by_cases c4 : x4_1 < (a0.size : Int)
      · rw [if_pos c4] at H
        have c4b0 : decide (x4_1 < (a0.size : Int)) = true := decide_eq_true c4
        clear c4
        by_cases c5 : 0 ≤ x4_1
        · rw [if_pos c5] at H
          have c5b0 : decide (0 ≤ x4_1) = true := decide_eq_true c5
          clear c5
          by_cases c7 : (bt a0 x4_1) = 34
          · rw [if_pos c7] at H
            have c7b0 : ((bt a0 x4_1) == 34) = true := beq_iff_eq.mpr c7
            have c7b1 : ((bt a0 x4_1) != 34) = false := bne_eq_false_iff_eq.mpr c7
            clear c7
            by_cases c8 : x3_1.length < 140737488355328
            · rw [if_pos c8] at H
              have LMc8 := Aside0.mk c8
              clear c8
              obtain ⟨y145, hy145⟩ : ∃ y_ : List Int, y_ = (x3_1 ++ [92]) := ⟨_, rfl⟩
              replace H : (if y145.length < 140737488355328 then (spec_l4Quoted.l0 k1 a0 (y145 ++ [bt a0 x4_1]) (wrap64 (x4_1 + 1))) else (none)) = some r := by first | (rw [hy145]; with_reducible exact H) | (have H2_ := (Option.bind_some _ _).symm.trans H; rw [hy145]; with_reducible exact H2_) | (have H2_ := (Option.bind_some _ _).symm.trans H; with_reducible exact H2_) | with_reducible exact H | (rw [hy145]; exact H) | exact H
              have Ny145 := Aside0.mk hy145
              clear hy145
              by_cases c10 : y145.length < 140737488355328
              · rw [if_pos c10] at H
                have LMc10 := Aside0.mk c10
                clear c10
                obtain ⟨y148, hy148⟩ : ∃ y_ : List Int, y_ = (y145 ++ [bt a0 x4_1]) := ⟨_, rfl⟩
                replace H : (spec_l4Quoted.l0 k1 a0 y148 (wrap64 (x4_1 + 1))) = some r := by first | (rw [hy148]; with_reducible exact H) | (have H2_ := (Option.bind_some _ _).symm.trans H; rw [hy148]; with_reducible exact H2_) | (have H2_ := (Option.bind_some _ _).symm.trans H; with_reducible exact H2_) | with_reducible exact H | (rw [hy148]; exact H) | exact H
                have Ny148 := Aside0.mk hy148
                clear hy148
                have H' := Aside0.mk H
                clear H
                have p6 : 0 ≤ (x4_1 : Int) := of_decide_eq_true (by first | (with_reducible assumption) | assumption)
                have q6 : x4_1 < (a0.size : Int) := of_decide_eq_true (by first | (with_reducible assumption) | assumption)
                have hx6 := bt_at a0 x4_1
                replace p6 := eq_true p6
                replace q6 := eq_true q6
                go_wp2_with (first | ((with_reducible refine gate_builtin (b := .append) (xs := #[.tmp 22, .tmp 23]) rfl ?_); at_builtin; refine Kd.R_append (Kd.int .u8) (w0 := w) w.heap.size rfl (.tmp 22) (.tmp 23) 37 5 (.int .u8 0) 1 rfl Tryd.underlying37 info5 rfl (by decide) (by omega) u3 x3_1 92 [.int .u8 92] (fun _ => True) (fun _ => False) rfl rfl ?aP (fun _ hk => hk.elim) ?aF ?aO ?aB ?aS ?aL ?_; (case aP => exact rfl); (case aB => exact (by repeat (first | (with_reducible first | exact HB.out | apply below_alloc | apply pw_below_drewN | apply below_drew1) | exact HB.out))); (case aF => exact (fun _ _ => trivial)); (case aO => exact (by (with_reducible repeat (first | apply Kd.R_alloc | apply Kd.R_drewN | apply Kd.R_drew)); exact HO_3.out)); (case aS => exact (below_size (by repeat (first | (with_reducible first | exact HB.out | apply below_alloc | apply pw_below_drewN | apply below_drew1) | exact HB.out)))); (case aL => have := LMc8.out; omega); intro v146 w11 ho hb hg hat; rw [← Ny145.out] at ho; have n0_ := Aside0.mk (hb); have n1_ := Aside0.mk (ho); clear HB; clear HO_3; have HB := n0_; have HO147 := n1_; clear n0_ n1_; clear ho hb hg hat; have p9 : 0 ≤ (x4_1 : Int) := of_decide_eq_true (by first | (with_reducible assumption) | assumption); have q9 : x4_1 < (a0.size : Int) := of_decide_eq_true (by first | (with_reducible assumption) | assumption); have hx9 := bt_at a0 x4_1; replace p9 := eq_true p9; replace q9 := eq_true q9) | ((with_reducible refine gate_builtin (b := .append) (xs := #[.tmp 25, .tmp 29]) rfl ?_); at_builtin; refine Kd.R_append (Kd.int .u8) (w0 := w) w.heap.size rfl (.tmp 25) (.tmp 29) 37 5 (.int .u8 0) 1 rfl Tryd.underlying37 info5 rfl (by decide) (by omega) v146 y145 (bt a0 x4_1) [.int .u8 (bt a0 x4_1)] (fun _ => True) (fun _ => False) rfl rfl ?aP (fun _ hk => hk.elim) ?aF ?aO ?aB ?aS ?aL ?_; (case aP => exact rfl); (case aB => exact (by repeat (first | (with_reducible first | exact HB.out | apply below_alloc | apply pw_below_drewN | apply below_drew1) | exact HB.out))); (case aF => exact (fun _ _ => trivial)); (case aO => exact (by (with_reducible repeat (first | apply Kd.R_alloc | apply Kd.R_drewN | apply Kd.R_drew)); exact HO147.out)); (case aS => exact (below_size (by repeat (first | (with_reducible first | exact HB.out | apply below_alloc | apply pw_below_drewN | apply below_drew1) | exact HB.out)))); (case aL => have := LMc10.out; omega); intro v149 w12 ho hb hg hat; rw [← Ny148.out] at ho; have n0_ := Aside0.mk (hb); have n1_ := Aside0.mk (ho); clear HB; clear HO147; have HB := n0_; have HO150 := n1_; clear n0_ n1_; clear ho hb hg hat))
                go_roundg k1
                case measure => have := HK1.out; omega
                case rel => exact ⟨(y148), (wrap64 (x4_1 + 1)), (by first | rfl | (simp; done) | (simp [*]; done)), H', ⟨by have := HK1.out; omega⟩, ⟨by (with_reducible repeat (first | apply Kd.R_alloc | apply Kd.R_drewN | apply Kd.R_drew)); exact HO150.out⟩, ⟨by repeat (first | (with_reducible first | exact HB.out | apply below_alloc | apply pw_below_drewN | apply below_drew1) | exact HB.out)⟩⟩
              · rw [if_neg c10] at H
                exact absurd H (by simp)
            · rw [if_neg c8] at H
              exact absurd H (by simp)
          · rw [if_neg c7] at H
            have c7b0 : ((bt a0 x4_1) == 34) = false := beq_eq_false_iff_ne.mpr c7
            have c7b1 : ((bt a0 x4_1) != 34) = true := bne_iff_ne.mpr c7
            by_cases c14 : (bt a0 x4_1) = 92
            · rw [if_pos c14] at H
              have c14b0 : ((bt a0 x4_1) == 92) = true := beq_iff_eq.mpr c14
              have c14b1 : ((bt a0 x4_1) != 92) = false := bne_eq_false_iff_eq.mpr c14
              clear c14
              by_cases c15 : x3_1.length < 140737488355328
              · rw [if_pos c15] at H
                have LMc15 := Aside0.mk c15
                clear c15
                obtain ⟨y151, hy151⟩ : ∃ y_ : List Int, y_ = (x3_1 ++ [92]) := ⟨_, rfl⟩
                replace H : (if y151.length < 140737488355328 then (spec_l4Quoted.l0 k1 a0 (y151 ++ [bt a0 x4_1]) (wrap64 (x4_1 + 1))) else (none)) = some r := by first | (rw [hy151]; with_reducible exact H) | (have H2_ := (Option.bind_some _ _).symm.trans H; rw [hy151]; with_reducible exact H2_) | (have H2_ := (Option.bind_some _ _).symm.trans H; with_reducible exact H2_) | with_reducible exact H | (rw [hy151]; exact H) | exact H
                have Ny151 := Aside0.mk hy151
                clear hy151
                by_cases c17 : y151.length < 140737488355328
                · rw [if_pos c17] at H
                  have LMc17 := Aside0.mk c17
                  clear c17
                  obtain ⟨y154, hy154⟩ : ∃ y_ : List Int, y_ = (y151 ++ [bt a0 x4_1]) := ⟨_, rfl⟩
                  replace H : (spec_l4Quoted.l0 k1 a0 y154 (wrap64 (x4_1 + 1))) = some r := by first | (rw [hy154]; with_reducible exact H) | (have H2_ := (Option.bind_some _ _).symm.trans H; rw [hy154]; with_reducible exact H2_) | (have H2_ := (Option.bind_some _ _).symm.trans H; with_reducible exact H2_) | with_reducible exact H | (rw [hy154]; exact H) | exact H
                  have Ny154 := Aside0.mk hy154
                  clear hy154
                  have H' := Aside0.mk H
                  clear H
                  have p6 : 0 ≤ (x4_1 : Int) := of_decide_eq_true (by first | (with_reducible assumption) | assumption)
                  have q6 : x4_1 < (a0.size : Int) := of_decide_eq_true (by first | (with_reducible assumption) | assumption)
                  have hx6 := bt_at a0 x4_1
                  replace p6 := eq_true p6
                  replace q6 := eq_true q6
                  have p13 : 0 ≤ (x4_1 : Int) := of_decide_eq_true (by first | (with_reducible assumption) | assumption)
                  have q13 : x4_1 < (a0.size : Int) := of_decide_eq_true (by first | (with_reducible assumption) | assumption)
                  have hx13 := bt_at a0 x4_1
                  replace p13 := eq_true p13
                  replace q13 := eq_true q13
                  go_wp2_with (first | ((with_reducible refine gate_builtin (b := .append) (xs := #[.tmp 22, .tmp 23]) rfl ?_); at_builtin; refine Kd.R_append (Kd.int .u8) (w0 := w) w.heap.size rfl (.tmp 22) (.tmp 23) 37 5 (.int .u8 0) 1 rfl Tryd.underlying37 info5 rfl (by decide) (by omega) u3 x3_1 92 [.int .u8 92] (fun _ => True) (fun _ => False) rfl rfl ?aP (fun _ hk => hk.elim) ?aF ?aO ?aB ?aS ?aL ?_; (case aP => exact rfl); (case aB => exact (by repeat (first | (with_reducible first | exact HB.out | apply below_alloc | apply pw_below_drewN | apply below_drew1) | exact HB.out))); (case aF => exact (fun _ _ => trivial)); (case aO => exact (by (with_reducible repeat (first | apply Kd.R_alloc | apply Kd.R_drewN | apply Kd.R_drew)); exact HO_3.out)); (case aS => exact (below_size (by repeat (first | (with_reducible first | exact HB.out | apply below_alloc | apply pw_below_drewN | apply below_drew1) | exact HB.out)))); (case aL => have := LMc15.out; omega); intro v152 w18 ho hb hg hat; rw [← Ny151.out] at ho; have n0_ := Aside0.mk (hb); have n1_ := Aside0.mk (ho); clear HB; clear HO_3; have HB := n0_; have HO153 := n1_; clear n0_ n1_; clear ho hb hg hat; have p16 : 0 ≤ (x4_1 : Int) := of_decide_eq_true (by first | (with_reducible assumption) | assumption); have q16 : x4_1 < (a0.size : Int) := of_decide_eq_true (by first | (with_reducible assumption) | assumption); have hx16 := bt_at a0 x4_1; replace p16 := eq_true p16; replace q16 := eq_true q16) | ((with_reducible refine gate_builtin (b := .append) (xs := #[.tmp 25, .tmp 29]) rfl ?_); at_builtin; refine Kd.R_append (Kd.int .u8) (w0 := w) w.heap.size rfl (.tmp 25) (.tmp 29) 37 5 (.int .u8 0) 1 rfl Tryd.underlying37 info5 rfl (by decide) (by omega) v152 y151 (bt a0 x4_1) [.int .u8 (bt a0 x4_1)] (fun _ => True) (fun _ => False) rfl rfl ?aP (fun _ hk => hk.elim) ?aF ?aO ?aB ?aS ?aL ?_; (case aP => exact rfl); (case aB => exact (by repeat (first | (with_reducible first | exact HB.out | apply below_alloc | apply pw_below_drewN | apply below_drew1) | exact HB.out))); (case aF => exact (fun _ _ => trivial)); (case aO => exact (by (with_reducible repeat (first | apply Kd.R_alloc | apply Kd.R_drewN | apply Kd.R_drew)); exact HO153.out)); (case aS => exact (below_size (by repeat (first | (with_reducible first | exact HB.out | apply below_alloc | apply pw_below_drewN | apply below_drew1) | exact HB.out)))); (case aL => have := LMc17.out; omega); intro v155 w19 ho hb hg hat; rw [← Ny154.out] at ho; have n0_ := Aside0.mk (hb); have n1_ := Aside0.mk (ho); clear HB; clear HO153; have HB := n0_; have HO156 := n1_; clear n0_ n1_; clear ho hb hg hat))
                  go_roundg k1
                  case measure => have := HK1.out; omega
                  case rel => exact ⟨(y154), (wrap64 (x4_1 + 1)), (by first | rfl | (simp; done) | (simp [*]; done)), H', ⟨by have := HK1.out; omega⟩, ⟨by (with_reducible repeat (first | apply Kd.R_alloc | apply Kd.R_drewN | apply Kd.R_drew)); exact HO156.out⟩, ⟨by repeat (first | (with_reducible first | exact HB.out | apply below_alloc | apply pw_below_drewN | apply below_drew1) | exact HB.out)⟩⟩
                · rw [if_neg c17] at H
                  exact absurd H (by simp)
              · rw [if_neg c15] at H
                exact absurd H (by simp)
            · rw [if_neg c14] at H
              have c14b0 : ((bt a0 x4_1) == 92) = false := beq_eq_false_iff_ne.mpr c14
              have c14b1 : ((bt a0 x4_1) != 92) = true := bne_iff_ne.mpr c14
              by_cases c21 : x3_1.length < 140737488355328
              · rw [if_pos c21] at H
                have LMc21 := Aside0.mk c21
                clear c21
                obtain ⟨y157, hy157⟩ : ∃ y_ : List Int, y_ = (x3_1 ++ [bt a0 x4_1]) := ⟨_, rfl⟩
                replace H : (spec_l4Quoted.l0 k1 a0 y157 (wrap64 (x4_1 + 1))) = some r := by first | (rw [hy157]; with_reducible exact H) | (have H2_ := (Option.bind_some _ _).symm.trans H; rw [hy157]; with_reducible exact H2_) | (have H2_ := (Option.bind_some _ _).symm.trans H; with_reducible exact H2_) | with_reducible exact H | (rw [hy157]; exact H) | exact H
                have Ny157 := Aside0.mk hy157
                clear hy157
                have H' := Aside0.mk H
                clear H
                have p6 : 0 ≤ (x4_1 : Int) := of_decide_eq_true (by first | (with_reducible assumption) | assumption)
                have q6 : x4_1 < (a0.size : Int) := of_decide_eq_true (by first | (with_reducible assumption) | assumption)
                have hx6 := bt_at a0 x4_1
                replace p6 := eq_true p6
                replace q6 := eq_true q6
                have p13 : 0 ≤ (x4_1 : Int) := of_decide_eq_true (by first | (with_reducible assumption) | assumption)
                have q13 : x4_1 < (a0.size : Int) := of_decide_eq_true (by first | (with_reducible assumption) | assumption)
                have hx13 := bt_at a0 x4_1
                replace p13 := eq_true p13
                replace q13 := eq_true q13
                have p20 : 0 ≤ (x4_1 : Int) := of_decide_eq_true (by first | (with_reducible assumption) | assumption)
                have q20 : x4_1 < (a0.size : Int) := of_decide_eq_true (by first | (with_reducible assumption) | assumption)
                have hx20 := bt_at a0 x4_1
                replace p20 := eq_true p20
                replace q20 := eq_true q20
                go_wp2_with (first | ((with_reducible refine gate_builtin (b := .append) (xs := #[.tmp 25, .tmp 29]) rfl ?_); at_builtin; refine Kd.R_append (Kd.int .u8) (w0 := w) w.heap.size rfl (.tmp 25) (.tmp 29) 37 5 (.int .u8 0) 1 rfl Tryd.underlying37 info5 rfl (by decide) (by omega) u3 x3_1 (bt a0 x4_1) [.int .u8 (bt a0 x4_1)] (fun _ => True) (fun _ => False) rfl rfl ?aP (fun _ hk => hk.elim) ?aF ?aO ?aB ?aS ?aL ?_; (case aP => exact rfl); (case aB => exact (by repeat (first | (with_reducible first | exact HB.out | apply below_alloc | apply pw_below_drewN | apply below_drew1) | exact HB.out))); (case aF => exact (fun _ _ => trivial)); (case aO => exact (by (with_reducible repeat (first | apply Kd.R_alloc | apply Kd.R_drewN | apply Kd.R_drew)); exact HO_3.out)); (case aS => exact (below_size (by repeat (first | (with_reducible first | exact HB.out | apply below_alloc | apply pw_below_drewN | apply below_drew1) | exact HB.out)))); (case aL => have := LMc21.out; omega); intro v158 w22 ho hb hg hat; rw [← Ny157.out] at ho; have n0_ := Aside0.mk (hb); have n1_ := Aside0.mk (ho); clear HB; clear HO_3; have HB := n0_; have HO159 := n1_; clear n0_ n1_; clear ho hb hg hat))
                go_roundg k1
                case measure => have := HK1.out; omega
                case rel => exact ⟨(y157), (wrap64 (x4_1 + 1)), (by first | rfl | (simp; done) | (simp [*]; done)), H', ⟨by have := HK1.out; omega⟩, ⟨by (with_reducible repeat (first | apply Kd.R_alloc | apply Kd.R_drewN | apply Kd.R_drew)); exact HO159.out⟩, ⟨by repeat (first | (with_reducible first | exact HB.out | apply below_alloc | apply pw_below_drewN | apply below_drew1) | exact HB.out)⟩⟩
              · rw [if_neg c21] at H
                exact absurd H (by simp)
        · rw [if_neg c5] at H
          exact absurd H (by simp)
      · rw [if_neg c4] at H
        have c4b0 : decide (x4_1 < (a0.size : Int)) = false := decide_eq_false c4
        clear c4
        by_cases c23 : x3_1.length < 140737488355328
        · rw [if_pos c23] at H
          have LMc23 := Aside0.mk c23
          clear c23
          obtain ⟨y160, hy160⟩ : ∃ y_ : List Int, y_ = (x3_1 ++ [34]) := ⟨_, rfl⟩
          replace H : (some (strOfNums y160)) = some r := by first | (rw [hy160]; with_reducible exact H) | (have H2_ := (Option.bind_some _ _).symm.trans H; rw [hy160]; with_reducible exact H2_) | (have H2_ := (Option.bind_some _ _).symm.trans H; with_reducible exact H2_) | with_reducible exact H | (rw [hy160]; exact H) | exact H
          have Ny160 := Aside0.mk hy160
          clear hy160
          obtain rfl := Option.some.inj H
          go_wp2_with (first | ((with_reducible refine gate_builtin (b := .append) (xs := #[.tmp 31, .tmp 32]) rfl ?_); at_builtin; refine Kd.R_append (Kd.int .u8) (w0 := w) w.heap.size rfl (.tmp 31) (.tmp 32) 37 5 (.int .u8 0) 1 rfl Tryd.underlying37 info5 rfl (by decide) (by omega) u3 x3_1 34 [.int .u8 34] (fun _ => True) (fun _ => False) rfl rfl ?aP (fun _ hk => hk.elim) ?aF ?aO ?aB ?aS ?aL ?_; (case aP => exact rfl); (case aB => exact (by repeat (first | (with_reducible first | exact HB.out | apply below_alloc | apply pw_below_drewN | apply below_drew1) | exact HB.out))); (case aF => exact (fun _ _ => trivial)); (case aO => exact (by (with_reducible repeat (first | apply Kd.R_alloc | apply Kd.R_drewN | apply Kd.R_drew)); exact HO_3.out)); (case aS => exact (below_size (by repeat (first | (with_reducible first | exact HB.out | apply below_alloc | apply pw_below_drewN | apply below_drew1) | exact HB.out)))); (case aL => have := LMc23.out; omega); intro v161 w24 ho hb hg hat; rw [← Ny160.out] at ho; have n0_ := Aside0.mk (hb); have n1_ := Aside0.mk (ho); clear HB; clear HO_3; have HB := n0_; have HO162 := n1_; clear n0_ n1_; clear ho hb hg hat; have hcv25 := own_string (P := Tryd.prog) Tryd.underlying37 Tryd.underlying5 Tryd.underlying9 (Kd.own_of_R HO162.out)))
          go_ret
          exact ⟨by first | rfl | (simp [errW_none, errW_some] <;> rfl) | (simp [*, errW_none, errW_some] <;> rfl), by repeat (first | (with_reducible first | exact HB.out | apply below_alloc | apply pw_below_drewN | apply below_drew1) | exact HB.out)⟩
        · rw [if_neg c23] at H
          exact absurd H (by simp)

end Go.Proofs.YtchhognpijobcaaDoor.G

/- G35 -/
-- Laid by wip/g/gprint.py out of the translation, by the kit's print program. Lean checks it.
namespace Go.Proofs.YtchhognpijobcaaDoor.G
open Go.RowKit Go.Proofs.YtchhognpijobcaaDoorW.PrintWords Go.Proofs.YtchhognpijobcaaDoorW.PrintLast Go.Proofs.YtchhognpijobcaaDoorW.PrintMore
attribute [local go_sem] max2_int min2_int max_two min_two max_three min_three max_four min_four   -- for this text's walks alone
set_option linter.unusedVariables false
set_option linter.unusedSimpArgs false

/-! ### impl_decimal: function 35 -/
--IMPORT Derived.BigRegion
--IMPORT Derived.Handy
--IMPORT Derived.Deep.DrawnRows
def dg (d : Nat) : ByteArray := ⟨#[UInt8.ofNat (48 + d)]⟩
def decT (n : Nat) : ByteArray := if n < 10 then dg n else decT (n / 10) ++ dg (n % 10)
theorem dg_size (d : Nat) : (dg d).size = 1 := rfl
theorem decT_size : ∀ (k n : Nat), n < 10 ^ k → (decT n).size ≤ k + 1
  | 0, n, h => by
    have : n = 0 := by simpa using h
    subst this; rw [decT]; simp [dg_size]
  | k + 1, n, h => by
    rw [decT]
    split
    · rw [dg_size]; omega
    · have := decT_size k (n / 10) (by rw [Nat.pow_succ] at h; omega)
      rw [ByteArray.size_append, dg_size]; omega
theorem decT_lt {n : Nat} (h : n < 10) : decT n = dg n := by rw [decT, if_pos h]
theorem decT_ge {n : Nat} (h : ¬ n < 10) : decT n = decT (n / 10) ++ dg (n % 10) := by rw [decT, if_neg h]
theorem decT_small {n : Nat} (h : n ≤ 9223372036854775808) : (decT n).size ≤ 20 := decT_size 19 n (Nat.lt_of_le_of_lt h (by decide))
theorem enc_dg {d : Nat} (h : d < 10) : Utf8.encode (48 + (d : Int)) = dg d := by
  match d, h with
  | 0, _ => decide +kernel
  | 1, _ => decide +kernel
  | 2, _ => decide +kernel
  | 3, _ => decide +kernel
  | 4, _ => decide +kernel
  | 5, _ => decide +kernel
  | 6, _ => decide +kernel
  | 7, _ => decide +kernel
  | 8, _ => decide +kernel
  | 9, _ => decide +kernel
theorem enc_dz {z : Int} (h : 0 ≤ z ∧ z < 10) : Utf8.encode (48 + z) = dg z.toNat := by
  have e : z = (z.toNat : Int) := by omega
  rw [e]
  exact enc_dg (by omega)
theorem decZ_lt {z : Int} (h : z < 10) : decT z.toNat = dg z.toNat := decT_lt (by omega)
theorem decZ_ge {z : Int} (h : 10 ≤ z) : decT z.toNat = decT (z / 10).toNat ++ dg (z % 10).toNat := by
  rw [decT_ge (by omega), show (z / 10).toNat = z.toNat / 10 by omega, show (z % 10).toNat = z.toNat % 10 by omega]
attribute [local go_sem ↓] Go.wp_at_zero Go.wp_at_succ
theorem decimal_pos : ∀ (m : Nat) (z : Int), 0 ≤ z → z ≤ m → z ≤ 9223372036854775807 → ∀ w : World, Calls Tryd.prog 35 #[.int .i64 z] w fun e w' => e = .returned (.string (decT z.toNat)) ∧ w = w' := by
  intro m
  induction m with
  | zero =>
    intro z h0 hm hn w
    have hlt : z < 10 := by omega
    go_enter Tryd.func35, Tryd.ntmps35
    go_wp2
    go_ret
    exact ⟨by rw [decZ_lt (by omega), ← enc_dz (by omega)]; rfl, rfl⟩
  | succ m ih =>
    intro z h0 hm hn w
    by_cases hlt : z < 10
    · go_enter Tryd.func35, Tryd.ntmps35
      go_wp2
      go_ret
      exact ⟨by rw [decZ_lt (by omega), ← enc_dz (by omega)]; rfl, rfl⟩
    · have HI := Lib.hid (ih (z / 10) (by omega) (by omega) (by omega) w)
      have hsz := decT_small (n := (z / 10).toNat) (by omega)
      have HS := Lib.hid hsz
      clear ih hsz
      go_enter Tryd.func35, Tryd.ntmps35
      go_wp2_with fail
      refine HI.out.mono ?_
      rintro e w' ⟨rfl, rfl⟩
      have hsz := HS.out
      have hsum : (decT (z / 10).toNat).size + (Utf8.encode (48 + z % 10)).size ≤ 9223372036854775807 := by rw [enc_dz (by omega), dg_size]; omega
      go_wp2
      go_ret
      exact ⟨by rw [decZ_ge (z := z) (by omega), ← enc_dz (z := z % 10) (by omega)]; rfl, rfl⟩
def decS (z : Int) : ByteArray := if z < 0 then (⟨#[45]⟩ : ByteArray) ++ decT (-z).toNat else decT z.toNat
theorem decS_size {z : Int} (h : -9223372036854775808 ≤ z ∧ z ≤ 9223372036854775807) : (decS z).size ≤ 21 := by
  unfold decS
  split
  · have := decT_small (n := (-z).toNat) (by omega)
    rw [ByteArray.size_append]
    have : (⟨#[45]⟩ : ByteArray).size = 1 := rfl
    omega
  · have := decT_small (n := z.toNat) (by omega); omega
theorem decimal_all : ∀ (m : Nat) (z : Int), -z ≤ m → -9223372036854775808 ≤ z → z ≤ 9223372036854775807 → ∀ w : World, Calls Tryd.prog 35 #[.int .i64 z] w fun e w' => e = .returned (.string (decS z)) ∧ w = w' := by
  intro m
  induction m with
  | zero =>
    intro z hm hlo hhi w
    have h0 : 0 ≤ z := by omega
    have e : decS z = decT z.toNat := by unfold decS; rw [if_neg (by omega)]
    rw [e]
    exact decimal_pos z.toNat z h0 (by omega) hhi w
  | succ m ih =>
    intro z hm hlo hhi w
    by_cases h0 : 0 ≤ z
    · have e : decS z = decT z.toNat := by unfold decS; rw [if_neg (by omega)]
      rw [e]
      exact decimal_pos z.toNat z h0 (by omega) hhi w
    · have hz : z < 0 := by omega
      by_cases h10 : z > -10
      · have HI := Lib.hid (decimal_pos 10 (-z) (by omega) (by omega) (by omega) w)
        have hw1 : IntKind.i64.wrap (-z) = -z := by rw [IntKind.wrap_i64]; omega
        have hs : (decT (-z).toNat).size = 1 := by rw [decZ_lt (by omega)]; rfl
        have hsum : 1 + (decT (-z).toNat).size ≤ 9223372036854775807 := by omega
        clear ih
        go_enter Tryd.func35, Tryd.ntmps35
        go_wp2_with fail
        refine HI.out.mono ?_
        rintro e w' ⟨rfl, rfl⟩
        go_wp2
        go_ret
        exact ⟨by unfold decS; rw [if_pos hz]; rfl, rfl⟩
      · have hq0 : Int.tdiv z 10 = -((-z) / 10) := by
          have h1 : Int.tdiv (-(-z)) 10 = -((-z) / 10) := by rw [Int.neg_tdiv, Int.tdiv_eq_ediv_of_nonneg (by omega)]
          rwa [Int.neg_neg] at h1
        have hr0 : Int.tmod z 10 = -((-z) % 10) := by
          have h1 : Int.tmod (-(-z)) 10 = -((-z) % 10) := by rw [Int.neg_tmod, Int.tmod_eq_emod_of_nonneg (by omega)]
          rwa [Int.neg_neg] at h1
        obtain ⟨q, hq⟩ : ∃ q, Int.tdiv z 10 = q := ⟨_, rfl⟩
        obtain ⟨r, hr⟩ : ∃ r, Int.tmod z 10 = r := ⟨_, rfl⟩
        rw [hq] at hq0
        rw [hr] at hr0
        have HI := Lib.hid (ih q (by omega) (by omega) (by omega) w)
        have HJ := Lib.hid (decimal_pos 10 (-r) (by omega) (by omega) (by omega) w)
        have hsz := decS_size (z := q) (by omega)
        have hs1 : (decT (-r).toNat).size = 1 := by rw [decZ_lt (by omega)]; rfl
        have hsum : (decS q).size + (decT (-r).toNat).size ≤ 9223372036854775807 := by omega
        have hw1 : IntKind.i64.wrap q = q := by rw [IntKind.wrap_i64]; omega
        have hw2 : IntKind.i64.wrap (-r) = -r := by rw [IntKind.wrap_i64]; omega
        have hg : ¬ (-10 < z) := by omega
        have HQ := Lib.hid hq0
        have HR := Lib.hid hr0
        have HM := Lib.hid hm
        have HL := Lib.hid h10
        have H0 := Lib.hid h0
        clear ih hq0 hr0 hm h10 h0
        go_enter Tryd.func35, Tryd.ntmps35
        go_wp2_with fail
        refine HI.out.mono ?_
        rintro e w' ⟨rfl, rfl⟩
        go_wp2_with fail
        refine HJ.out.mono ?_
        rintro e w' ⟨rfl, rfl⟩
        go_wp2
        go_ret
        refine ⟨?_, rfl⟩
        have hq0 := HQ.out
        have hr0 := HR.out
        have h10 := HL.out
        have e1 : decS z = (⟨#[45]⟩ : ByteArray) ++ decT (-z).toNat := by unfold decS; rw [if_pos (by omega)]
        have e2 : decS q = (⟨#[45]⟩ : ByteArray) ++ decT ((-z) / 10).toNat := by unfold decS; rw [if_pos (by omega), show -q = (-z) / 10 by omega]
        have e3 : decT (-r).toNat = dg ((-z) % 10).toNat := by rw [decZ_lt (by omega), show -r = (-z) % 10 by omega]
        rw [e1, decZ_ge (z := -z) (by omega), ← ByteArray.append_assoc, ← e2, ← e3]
        rfl
def impl_decimal.f (a0 : Int) : Option ByteArray := if -9223372036854775808 ≤ a0 ∧ a0 ≤ 9223372036854775807 then some (decS a0) else none
theorem impl_decimal.calls (a0 : Int) (r : ByteArray) (w : World) (h : impl_decimal.f a0 = some r) :
    Calls Tryd.prog 35 #[.int .i64 a0] w fun e w' => e = .returned (.string r) ∧ Drawn0 w w' := by
  unfold impl_decimal.f at h
  by_cases hl : -9223372036854775808 ≤ a0 ∧ a0 ≤ 9223372036854775807
  · rw [if_pos hl] at h
    obtain rfl := Option.some.inj h
    refine (decimal_all (-a0).toNat a0 (by omega) hl.1 hl.2 w).mono ?_
    rintro e w' ⟨rfl, rfl⟩
    exact ⟨rfl, Drawn0.refl _⟩
  · rw [if_neg hl] at h
    cases h

end Go.Proofs.YtchhognpijobcaaDoor.G

/- G42 -/
-- Laid by wip/g/gprint.py out of the translation, by the kit's print program. Lean checks it.
namespace Go.Proofs.YtchhognpijobcaaDoor.G
open Go.RowKit Go.Proofs.YtchhognpijobcaaDoorW.PrintWords Go.Proofs.YtchhognpijobcaaDoorW.PrintLast Go.Proofs.YtchhognpijobcaaDoorW.PrintMore
attribute [local go_sem] max2_int min2_int max_two min_two max_three min_three max_four min_four   -- for this text's walks alone
set_option linter.unusedVariables false
set_option linter.unusedSimpArgs false

/-! ### spec_l4Int: function 42 -/
mutual
def spec_l4Int.j0 : Nat → Int → ByteArray → Option (ByteArray)
  | 0, _, _ => none
  | k + 1, x3, x4 => spec_l4Int.l0 k x3 x4 (⟨#[]⟩ : ByteArray)
def spec_l4Int.l0 : Nat → Int → ByteArray → ByteArray → Option (ByteArray)
  | 0, _, _, _ => none
  | k + 1, x3, x4, x5 => if x3 ≥ 10 then ((some (([(IntKind.u64.wrap (48 + (Int.tmod x3 10))) % 256] : List Int) : List Int)).bind fun y163 => (if (strOfNums y163).size + x5.size ≤ 9223372036854775807 then (spec_l4Int.l0 k (IntKind.u64.wrap (Int.tdiv x3 10)) x4 ((strOfNums y163) ++ x5)) else (none))) else ((some (([(IntKind.u64.wrap (48 + x3)) % 256] : List Int) : List Int)).bind fun y166 => (if x4.size + (strOfNums y166).size ≤ 9223372036854775807 then (if (x4 ++ (strOfNums y166)).size + x5.size ≤ 9223372036854775807 then (some ((x4 ++ (strOfNums y166)) ++ x5)) else (none)) else (none)))
end
def spec_l4Int.f (k : Nat) (a0 : Int) : Option (ByteArray) := if a0 < 0 then (spec_l4Int.j0 k (IntKind.u64.wrap ((IntKind.u64.wrap (wrap64 (-(wrap64 (a0 + 1))))) + 1)) (⟨#[45]⟩ : ByteArray)) else (spec_l4Int.j0 k (IntKind.u64.wrap (a0)) (⟨#[]⟩ : ByteArray))
set_option maxHeartbeats 8000000 in
set_option maxRecDepth 100000 in
theorem spec_l4Int.calls (k : Nat) (a0 : Int) (r : ByteArray) (w : World) (h : spec_l4Int.f k a0 = some r) :
    Calls Tryd.prog 42 #[.int .i64 a0] w fun e w' => e = .returned (.string r) ∧ Below w.heap.size w w' := by
  have HB := Aside0.mk (Below.refl w.heap.size w)
  have H : (if a0 < 0 then (spec_l4Int.j0 k (IntKind.u64.wrap ((IntKind.u64.wrap (wrap64 (-(wrap64 (a0 + 1))))) + 1)) (⟨#[45]⟩ : ByteArray)) else (spec_l4Int.j0 k (IntKind.u64.wrap (a0)) (⟨#[]⟩ : ByteArray))) = some r := h
  clear h
  have HC2 := Aside0.mk H
  clear H
  go_enter Tryd.func42, Tryd.ntmps42
  go_upto_if 9 with (fail)
  go_cut [3, 4] (fun v3 v4 wc => ∃ (kq : Nat) (x3_1 : Int) (x4_1 : ByteArray), v3 = .int .u64 x3_1 ∧ v4 = .string x4_1 ∧ Aside0 (spec_l4Int.j0 kq x3_1 x4_1 = some r) ∧ Aside0 (kq ≤ k) ∧ Aside0 (Below w.heap.size w wc))
  case first =>
    have H := HC2.out
    clear HC2
    by_cases c3 : a0 < 0
    · rw [if_pos c3] at H
      have c3b0 : decide (a0 < 0) = true := decide_eq_true c3
      clear c3
      (first | rw [c3b0] | (simp only [i64_w, i32_w]; rw [c3b0]) | skip)
      have H' := Aside0.mk H
      clear H
      go_wp2
      go_meet
      case rel => exact ⟨_, (IntKind.u64.wrap ((IntKind.u64.wrap (wrap64 (-(wrap64 (a0 + 1))))) + 1)), ((⟨#[45]⟩ : ByteArray)), (by first | rfl | (simp; done) | (simp [*]; done)), (by first | rfl | (simp; done) | (simp [*]; done)), H', ⟨by first | omega | exact Nat.le_refl _⟩, ⟨by repeat (first | (with_reducible first | exact HB.out | apply below_alloc | apply pw_below_drewN | apply below_drew1) | exact HB.out)⟩⟩
    · rw [if_neg c3] at H
      have c3b0 : decide (a0 < 0) = false := decide_eq_false c3
      clear c3
      (first | rw [c3b0] | (simp only [i64_w, i32_w]; rw [c3b0]) | skip)
      have H' := Aside0.mk H
      clear H
      go_wp2
      go_meet
      case rel => exact ⟨_, (IntKind.u64.wrap (a0)), ((⟨#[]⟩ : ByteArray)), (by first | rfl | (simp; done) | (simp [*]; done)), (by first | rfl | (simp; done) | (simp [*]; done)), H', ⟨by first | omega | exact Nat.le_refl _⟩, ⟨by repeat (first | (with_reducible first | exact HB.out | apply below_alloc | apply pw_below_drewN | apply below_drew1) | exact HB.out)⟩⟩
  case rest =>
    clear HC2
    try clear p2
    try clear c3
    try clear c3b0
    obtain ⟨kq, x3_1, x4_1, rfl, rfl, HA, HJ1, HB⟩ := hcut
    cases kq with
    | zero => exact absurd HA.out (by simp [spec_l4Int.j0])
    | succ kj1 =>
      have H := HA.out
      clear HA
      simp only [spec_l4Int.j0] at H
      have H' := Aside0.mk H
      clear H
      go_wp2
      go_loopg [3, 5] kj1 (fun kq v3 v5 w' => ∃ (x3_2 : Int) (x5_2 : ByteArray), v3 = .int .u64 x3_2 ∧ v5 = .string x5_2 ∧ Aside0 (spec_l4Int.l0 kq x3_2 x4_1 x5_2 = some r) ∧ Aside0 (kq ≤ kj1) ∧ Aside0 (Below w.heap.size w w'))
      case atStart => exact ⟨(x3_1), ((⟨#[]⟩ : ByteArray)), (by first | rfl | (simp; done) | (simp [*]; done)), (by first | rfl | (simp; done) | (simp [*]; done)), H', ⟨Nat.le_refl _⟩, ⟨by repeat (first | (with_reducible first | exact HB.out | apply below_alloc | apply pw_below_drewN | apply below_drew1) | exact HB.out)⟩⟩
      case round =>
        clear H'
        try clear p2
        try clear c3
        try clear c3b0
        try clear p2
        obtain ⟨x3_2, x5_2, rfl, rfl, HA, HK2, HB⟩ := hrel
        cases gk with
        | zero => exact absurd HA.out (by simp [spec_l4Int.l0])
        | succ k2 =>
          have H := HA.out
          clear HA
          simp only [spec_l4Int.l0] at H
          by_cases c4 : x3_2 ≥ 10
          · rw [if_pos c4] at H
            have c4b0 : decide (10 ≤ x3_2) = true := decide_eq_true c4
            clear c4
            obtain ⟨y163, hy163⟩ : ∃ y_ : List Int, y_ = (([(IntKind.u64.wrap (48 + (Int.tmod x3_2 10))) % 256] : List Int)) := ⟨_, rfl⟩
            replace H : (if (strOfNums y163).size + x5_2.size ≤ 9223372036854775807 then (spec_l4Int.l0 k2 (IntKind.u64.wrap (Int.tdiv x3_2 10)) x4_1 ((strOfNums y163) ++ x5_2)) else (none)) = some r := by first | (rw [hy163]; with_reducible exact H) | (have H2_ := (Option.bind_some _ _).symm.trans H; rw [hy163]; with_reducible exact H2_) | (have H2_ := (Option.bind_some _ _).symm.trans H; with_reducible exact H2_) | with_reducible exact H | (rw [hy163]; exact H) | exact H
            have Ny163 := Aside0.mk hy163
            clear hy163
            by_cases c5 : (strOfNums y163).size + x5_2.size ≤ 9223372036854775807
            · rw [if_pos c5] at H
              have c5b0 := eq_true c5
              have c5b1 : decide ((strOfNums y163).size + x5_2.size ≤ 9223372036854775807) = true := decide_eq_true c5
              try have c5b2 : (9223372036854775807 < (strOfNums y163).size + x5_2.size) = False := eq_false (Nat.not_lt.2 c5)
              have H' := Aside0.mk H
              clear H
              go_wp2_with (first | ((with_reducible refine gate_dst (N := 21) rfl ?_); refine Kd.R_lit (Kd.int .u8) _ 5 ?hg (N := 21) ?hd (xs := ([(IntKind.u64.wrap (48 + (Int.tmod x3_2 10))) % 256] : List Int)) (inner := [.int .u8 ((IntKind.u64.wrap (48 + (Int.tmod x3_2 10))) % 256)]) (ok := fun _ => True) (okp := fun _ => True) ?hr ?hp (fun _ hk => hk) trivial (Below.refl _ _) (Nat.le_refl _) (by simp) ?_; (case hd => rfl); (case hg => rfl); (case hr => first | (go_simp; done) | (go_simp; rfl)); (case hp => exact (Reps.one (show Kd.M (Kd.int .u8) _ _ _ ((IntKind.u64.wrap (48 + (Int.tmod x3_2 10))) % 256) [.int .u8 ((IntKind.u64.wrap (48 + (Int.tmod x3_2 10))) % 256)] from rfl) (Reps.none _ _))); intro v164 w6 ho7 hb hg_ hnew_; clear hg_ hnew_; (first | rw [← Ny163.out] at ho7 | (simp only [Int.reduceToNat] at ho7; rw [← Ny163.out] at ho7)); have n0_ := Aside0.mk (Kd.R_lower ho7 (below_size (by repeat (first | (with_reducible first | exact HB.out | apply below_alloc | apply pw_below_drewN | apply below_drew1) | exact HB.out)))); have n1_ := Aside0.mk (below_step (by repeat (first | (with_reducible first | exact HB.out | apply below_alloc | apply pw_below_drewN | apply below_drew1) | exact HB.out)) hb); clear HB; have HO165 := n0_; have HB := n1_; clear n0_ n1_; clear hb ho7; have hcv8 := own_string (P := Tryd.prog) Tryd.underlying37 Tryd.underlying5 Tryd.underlying9 (Kd.own_of_R HO165.out)))
              go_roundg k2
              case measure => have := HJ1.out; have := HK2.out; omega
              case rel => exact ⟨(IntKind.u64.wrap (Int.tdiv x3_2 10)), ((strOfNums y163) ++ x5_2), (by first | rfl | (simp; done) | (simp [*]; done)), (by first | rfl | (simp; done) | (simp [*]; done)), H', ⟨by have := HJ1.out; have := HK2.out; omega⟩, ⟨by repeat (first | (with_reducible first | exact HB.out | apply below_alloc | apply pw_below_drewN | apply below_drew1) | exact HB.out)⟩⟩
            · rw [if_neg c5] at H
              exact absurd H (by simp)
          · rw [if_neg c4] at H
            have c4b0 : decide (10 ≤ x3_2) = false := decide_eq_false c4
            clear c4
            obtain ⟨y166, hy166⟩ : ∃ y_ : List Int, y_ = (([(IntKind.u64.wrap (48 + x3_2)) % 256] : List Int)) := ⟨_, rfl⟩
            replace H : (if x4_1.size + (strOfNums y166).size ≤ 9223372036854775807 then (if (x4_1 ++ (strOfNums y166)).size + x5_2.size ≤ 9223372036854775807 then (some ((x4_1 ++ (strOfNums y166)) ++ x5_2)) else (none)) else (none)) = some r := by first | (rw [hy166]; with_reducible exact H) | (have H2_ := (Option.bind_some _ _).symm.trans H; rw [hy166]; with_reducible exact H2_) | (have H2_ := (Option.bind_some _ _).symm.trans H; with_reducible exact H2_) | with_reducible exact H | (rw [hy166]; exact H) | exact H
            have Ny166 := Aside0.mk hy166
            clear hy166
            by_cases c9 : x4_1.size + (strOfNums y166).size ≤ 9223372036854775807
            · rw [if_pos c9] at H
              have c9b0 := eq_true c9
              have c9b1 : decide (x4_1.size + (strOfNums y166).size ≤ 9223372036854775807) = true := decide_eq_true c9
              try have c9b2 : (9223372036854775807 < x4_1.size + (strOfNums y166).size) = False := eq_false (Nat.not_lt.2 c9)
              by_cases c10 : (x4_1 ++ (strOfNums y166)).size + x5_2.size ≤ 9223372036854775807
              · rw [if_pos c10] at H
                have c10b0 := eq_true c10
                have c10b1 : decide ((x4_1 ++ (strOfNums y166)).size + x5_2.size ≤ 9223372036854775807) = true := decide_eq_true c10
                try have c10b2 : (9223372036854775807 < (x4_1 ++ (strOfNums y166)).size + x5_2.size) = False := eq_false (Nat.not_lt.2 c10)
                obtain rfl := Option.some.inj H
                go_wp2_with (first | ((with_reducible refine gate_dst (N := 31) rfl ?_); refine Kd.R_lit (Kd.int .u8) _ 5 ?hg (N := 31) ?hd (xs := ([(IntKind.u64.wrap (48 + x3_2)) % 256] : List Int)) (inner := [.int .u8 ((IntKind.u64.wrap (48 + x3_2)) % 256)]) (ok := fun _ => True) (okp := fun _ => True) ?hr ?hp (fun _ hk => hk) trivial (Below.refl _ _) (Nat.le_refl _) (by simp) ?_; (case hd => rfl); (case hg => rfl); (case hr => first | (go_simp; done) | (go_simp; rfl)); (case hp => exact (Reps.one (show Kd.M (Kd.int .u8) _ _ _ ((IntKind.u64.wrap (48 + x3_2)) % 256) [.int .u8 ((IntKind.u64.wrap (48 + x3_2)) % 256)] from rfl) (Reps.none _ _))); intro v167 w11 ho12 hb hg_ hnew_; clear hg_ hnew_; (first | rw [← Ny166.out] at ho12 | (simp only [Int.reduceToNat] at ho12; rw [← Ny166.out] at ho12)); have n0_ := Aside0.mk (Kd.R_lower ho12 (below_size (by repeat (first | (with_reducible first | exact HB.out | apply below_alloc | apply pw_below_drewN | apply below_drew1) | exact HB.out)))); have n1_ := Aside0.mk (below_step (by repeat (first | (with_reducible first | exact HB.out | apply below_alloc | apply pw_below_drewN | apply below_drew1) | exact HB.out)) hb); clear HB; have HO168 := n0_; have HB := n1_; clear n0_ n1_; clear hb ho12; have hcv13 := own_string (P := Tryd.prog) Tryd.underlying37 Tryd.underlying5 Tryd.underlying9 (Kd.own_of_R HO168.out)))
                go_ret
                exact ⟨by first | rfl | (simp [errW_none, errW_some] <;> rfl) | (simp [*, errW_none, errW_some] <;> rfl), by repeat (first | (with_reducible first | exact HB.out | apply below_alloc | apply pw_below_drewN | apply below_drew1) | exact HB.out)⟩
              · rw [if_neg c10] at H
                exact absurd H (by simp)
            · rw [if_neg c9] at H
              exact absurd H (by simp)

end Go.Proofs.YtchhognpijobcaaDoor.G

/- PQuote -/
/-
  Texts in quotes; numbers of any size in digits.
-/
namespace Go.Proofs.YtchhognpijobcaaDoor.G
open Go.RowKit Go.Proofs.YtchhognpijobcaaDoorW.PrintWords Go.Proofs.YtchhognpijobcaaDoorW.PrintLast Go.Proofs.YtchhognpijobcaaDoorW.PrintMore
set_option linter.unusedVariables false
set_option linter.unusedSimpArgs false
def rp (c : UInt8) (new : List UInt8) (l : List UInt8) : List UInt8 := l.flatMap (fun b => if b = c then new else [b])
theorem rp_index (c : UInt8) (new : List UInt8) : ∀ (l : List UInt8), (Lib.index l [c] = -1 → rp c new l = l) ∧ ∀ i : Nat, Lib.index l [c] = i → rp c new l = l.take i ++ new ++ rp c new (l.drop (i + 1))
  | [] => by
    refine ⟨fun _ => rfl, fun i h => ?_⟩
    simp [Lib.index] at h
  | b :: t => by
    obtain ⟨h1, h2⟩ := rp_index c new t
    rw [Lib.index]
    by_cases hb : b = c
    · subst hb
      have hp : List.isPrefixOf [b] (b :: t) = true := by simp [List.isPrefixOf]
      rw [if_pos hp]
      refine ⟨fun h => by omega, fun i h => ?_⟩
      obtain rfl : i = 0 := by omega
      simp [rp]
    · have hp : ¬ List.isPrefixOf [c] (b :: t) = true := by
        simp [List.isPrefixOf]; exact fun e => hb e.symm
      rw [if_neg hp]
      have hc : rp c new (b :: t) = b :: rp c new t := by simp [rp, hb]
      by_cases hm : Lib.index t [c] = -1
      · rw [if_pos (beq_iff_eq.2 hm)]
        exact ⟨fun _ => by rw [hc, h1 hm], fun i h => by omega⟩
      · rw [if_neg (fun e => hm (beq_iff_eq.1 e))]
        obtain ⟨j, hj⟩ : ∃ j : Nat, Lib.index t [c] = j := by
          rcases Lib.index_spec t [c] with h | ⟨j, h, _⟩
          · exact absurd h.1 hm
          · exact ⟨j, h⟩
        refine ⟨fun h => by omega, fun i h => ?_⟩
        obtain rfl : i = j + 1 := by omega
        rw [hc, h2 j hj]; simp
theorem replaceK_rp (c : UInt8) (new : List UInt8) : ∀ (k : Nat) (l : List UInt8), Lib.count l [c] = k → Lib.replaceK [c] new k l = rp c new l
  | 0, l, h => by
    rcases Lib.index_spec l [c] with hm | ⟨i, hi, _⟩
    · rw [Lib.replaceK, (rp_index c new l).1 hm.1]
    · rw [Lib.count_hit (by simp) hi] at h; omega
  | k + 1, l, h => by
    rcases Lib.index_spec l [c] with hm | ⟨i, hi, _⟩
    · rw [Lib.replaceK, if_pos (beq_iff_eq.2 hm.1), (rp_index c new l).1 hm.1]
    · rw [Lib.count_hit (by simp) hi, List.length_singleton] at h
      rw [Lib.replaceK_hit _ _ _ _ i hi, (rp_index c new l).2 i hi, List.length_singleton, replaceK_rp c new k _ (by omega)]
theorem replaceAll_rp (c : UInt8) (new l : List UInt8) (h : [c] ≠ new) : Lib.replaceAll l [c] new = rp c new l := by
  unfold Lib.replaceAll Lib.replace
  rw [if_neg (fun e => h (beq_iff_eq.1 e))]
  have : Lib.replaceNum l [c] (-1) = Lib.count l [c] := by unfold Lib.replaceNum; rw [if_pos (.inl (by omega))]
  rw [this, replaceK_rp c new _ l rfl]
theorem rp_len (c : UInt8) (new : List UInt8) (h : new.length ≤ 2) : ∀ l : List UInt8, (rp c new l).length ≤ 2 * l.length
  | [] => by simp [rp]
  | b :: t => by
    have := rp_len c new h t
    unfold rp at this ⊢
    rw [List.flatMap_cons, List.length_append, List.length_cons]
    split
    · omega
    · rw [List.length_singleton]; omega
/-- A text with its quotes and strokes marked. -/
def escL (l : List UInt8) : List UInt8 := l.flatMap (fun b => if b = 34 ∨ b = 92 then [92, b] else [b])
theorem rp_rp : ∀ l : List UInt8, rp 34 [92, 34] (rp 92 [92, 92] l) = escL l
  | [] => rfl
  | b :: t => by
    have ih := rp_rp t
    unfold rp escL at ih ⊢
    rw [List.flatMap_cons, List.flatMap_append, ih, List.flatMap_cons]
    congr 1
    by_cases h1 : b = 92
    · subst h1; decide
    · by_cases h2 : b = 34
      · subst h2; decide
      · rw [if_neg h1, if_neg (by simp [h1, h2])]; simp [h2]
def qtL (l : List UInt8) : List UInt8 := 34 :: (escL l ++ [34])
def qt (s : ByteArray) : ByteArray := mkb (qtL s.data.toList)
theorem escL_len (l : List UInt8) : (escL l).length ≤ 2 * l.length := by
  induction l with
  | nil => simp [escL]
  | cons b t ih =>
    unfold escL at ih ⊢
    rw [List.flatMap_cons, List.length_append, List.length_cons]
    split
    · show 2 + _ ≤ _; omega
    · rw [List.length_singleton]; omega
theorem mkb_sz (l : List UInt8) : (mkb l).size = l.length := by rw [size_data, mkb_data]
theorem qt_size (s : ByteArray) : (qt s).size ≤ 2 * s.size + 2 := by
  unfold qt qtL
  rw [mkb_sz]
  have := escL_len s.data.toList
  rw [← size_data] at this
  simp; omega
theorem mk_eq {a b : ByteArray} (h : a.data.toList = b.data.toList) : a = b := by
  obtain ⟨⟨x⟩⟩ := a
  obtain ⟨⟨y⟩⟩ := b
  have h : x = y := h
  rw [h]
theorem replace_f (s : ByteArray) (c : UInt8) (d : UInt8) (h : s.size ≤ 4194304) : strings_ReplaceAll.f s ⟨#[c]⟩ ⟨#[d, c]⟩ = some (mkb (rp c [d, c] s.data.toList)) := by
  unfold strings_ReplaceAll.f
  have hc := Lib.countB_le ⟨#[c]⟩ (Nat.le_refl 1) _ s (Nat.le_refl _)
  have h2 : (⟨#[d, c]⟩ : ByteArray).size = 2 := rfl
  rw [if_pos ⟨by omega, Nat.le_refl 1, by rw [h2]; omega⟩]
  show some (mkb (Lib.replaceAll s.data.toList [c] [d, c])) = _
  rw [replaceAll_rp c [d, c] _ (by simp)]
theorem quoted_f (s : ByteArray) (h : s.size ≤ 1048576) : impl_quoted.f s = some (qt s) := by
  unfold impl_quoted.f
  have hl := rp_len 92 [92, 92] (by simp) s.data.toList
  rw [← size_data] at hl
  have hl2 := rp_len 34 [92, 34] (by simp) (rp 92 [92, 92] s.data.toList)
  have q1 : (⟨#[34]⟩ : ByteArray).size = 1 := rfl
  rw [replace_f s 92 92 (by omega), Option.bind_some, replace_f _ 34 92 (by rw [mkb_sz]; omega), Option.bind_some, mkb_data, rp_rp]
  have hs : (mkb (escL s.data.toList)).size ≤ 4194304 := by
    rw [mkb_sz]; have := escL_len s.data.toList; rw [← size_data] at this; omega
  rw [if_pos (by omega), if_pos (by rw [ByteArray.size_append, q1]; omega)]
  congr 1
theorem nums_mkb (l : List UInt8) : strOfNums (l.map fun b : UInt8 => (b.toNat : Int)) = mkb l := by
  apply mk_eq
  rw [strOfNums_data, mkb_data, List.map_map]
  conv => rhs; rw [← List.map_id l]
  refine List.map_congr_left (fun b _ => ?_)
  show UInt8.ofNat ((b.toNat : Int).toNat) = b
  rw [Int.toNat_natCast, UInt8.ofNat_toNat]
theorem l4Quoted_l0 (s : ByteArray) (hs : s.size ≤ 1048576) : ∀ (d i : Nat), i + d = s.size → Ev (fun k => spec_l4Quoted.l0 k s ((34 :: escL (s.data.toList.take i)).map fun b : UInt8 => (b.toNat : Int)) i) (qt s)
  | 0, i, hd => by
    have hl := escL_len (s.data.toList.take i)
    have hl2 : (s.data.toList.take i).length ≤ s.size := by rw [List.length_take, ← size_data]; omega
    refine Ev.step (fun k => by rw [spec_l4Quoted.l0]) (ev_if_neg (by omega) (ev_if_pos (by rw [List.length_map, List.length_cons]; omega) (ev_some ?_)))
    rw [List.take_of_length_le (by rw [← size_data]; omega)]
    have e : ((34 :: escL s.data.toList).map fun b : UInt8 => (b.toNat : Int)) ++ [34] = (qtL s.data.toList).map fun b : UInt8 => (b.toNat : Int) := by simp [qtL]
    rw [e, nums_mkb]; rfl
  | d + 1, i, hd => by
    have hi : i < s.data.toList.length := by rw [← size_data]; omega
    have ih := l4Quoted_l0 s hs d (i + 1) (by omega)
    have hl := escL_len (s.data.toList.take i)
    have hl2 : (s.data.toList.take i).length ≤ s.size := by rw [List.length_take, ← size_data]; omega
    have hb : bt s (i : Int) = ((s.data.toList[i].toNat : Nat) : Int) := (bt_byte s _ hi).2 rfl
    rw [List.take_succ_eq_append_getElem hi] at ih
    have ea : ∀ (x : List UInt8) (b : UInt8), escL (x ++ [b]) = escL x ++ (if b = 34 ∨ b = 92 then [92, b] else [b]) := fun x b => by simp [escL]
    rw [ea] at ih
    have hlen : ((34 :: escL (s.data.toList.take i)).map fun b : UInt8 => (b.toNat : Int)).length < 140737488355328 := by rw [List.length_map, List.length_cons]; omega
    have hlen2 : (((34 :: escL (s.data.toList.take i)).map fun b : UInt8 => (b.toNat : Int)) ++ [92]).length < 140737488355328 := by rw [List.length_append, List.length_map, List.length_cons]; simp; omega
    refine Ev.step (fun k => by rw [spec_l4Quoted.l0]) (ev_if_pos (by omega) (ev_if_pos (by omega) ?_))
    rw [wsucc (n := s.size) (by omega) (by omega)]
    by_cases c1 : s.data.toList[i] = 34
    · refine ev_if_pos ((bt_byte s 34 hi).2 c1) (ev_if_pos hlen (Ev.bind (Ev.now _) (ev_if_pos hlen2 ?_)))
      rw [if_pos (.inl c1)] at ih
      rw [hb]
      refine Ev.congr (fun k => ?_) ih
      congr 1; simp [c1]
    · refine ev_if_neg (fun h => c1 ((bt_byte s 34 hi).1 h)) ?_
      by_cases c2 : s.data.toList[i] = 92
      · refine ev_if_pos ((bt_byte s 92 hi).2 c2) (ev_if_pos hlen (Ev.bind (Ev.now _) (ev_if_pos hlen2 ?_)))
        rw [if_pos (.inr c2)] at ih
        rw [hb]
        refine Ev.congr (fun k => ?_) ih
        congr 1; simp [c2]
      · refine ev_if_neg (fun h => c2 ((bt_byte s 92 hi).1 h)) (ev_if_pos hlen ?_)
        rw [if_neg (fun h => h.elim c1 c2)] at ih
        rw [hb]
        refine Ev.congr (fun k => ?_) ih
        congr 1; simp
theorem l4Quoted_ev (s : ByteArray) (hs : s.size ≤ 1048576) : Ev (fun k => spec_l4Quoted.f k s) (qt s) := by
  unfold spec_l4Quoted.f
  exact l4Quoted_l0 s hs s.size 0 (by omega)
/-! ### numbers -/
theorem dg_num {z : Int} (h0 : 0 ≤ z) (h : z < 10) : strOfNums [(IntKind.u64.wrap (48 + z)) % 256] = dg z.toNat := by
  obtain ⟨n, rfl⟩ := Int.eq_ofNat_of_zero_le h0
  have hn : n < 10 := by omega
  match n, hn with
  | 0, _ => decide +kernel
  | 1, _ => decide +kernel
  | 2, _ => decide +kernel
  | 3, _ => decide +kernel
  | 4, _ => decide +kernel
  | 5, _ => decide +kernel
  | 6, _ => decide +kernel
  | 7, _ => decide +kernel
  | 8, _ => decide +kernel
  | 9, _ => decide +kernel
theorem u64w {x : Int} (h : 0 ≤ x) (h' : x < 18446744073709551616) : IntKind.u64.wrap x = x := by
  rw [IntKind.wrap_u64]; omega
theorem l4Int_l0 : ∀ (m : Nat) (x : Int) (s d : ByteArray), 0 ≤ x → x.toNat < 10 ^ (m + 1) → x ≤ 9223372036854775808 → s.size ≤ 10 → d.size + m ≤ 1000 → Ev (fun k => spec_l4Int.l0 k x s d) (s ++ decT x.toNat ++ d)
  | m, x, s, d, h0, hm, hx, hs, hd => by
    by_cases c : x ≥ 10
    · have ht : Int.tdiv x 10 = x / 10 := Int.tdiv_eq_ediv_of_nonneg h0
      have hr : Int.tmod x 10 = x % 10 := Int.tmod_eq_emod_of_nonneg h0
      match m, hm, hd with
      | 0, hm, _ => rw [Nat.zero_add, Nat.pow_one] at hm; omega
      | m + 1, hm, hd =>
        rw [Nat.pow_succ] at hm
        have ih := l4Int_l0 m (x / 10) s (dg (x % 10).toNat ++ d) (by omega) (by omega) (by omega) hs (by rw [ByteArray.size_append, dg_size]; omega)
        refine Ev.step (fun k => by rw [spec_l4Int.l0]) (ev_if_pos c (Ev.bind (Ev.now _) ?_))
        rw [hr, dg_num (by omega) (by omega), ht, u64w (by omega) (by omega)]
        refine ev_if_pos (by rw [dg_size]; omega) (ev_rw ih ?_)
        rw [decZ_ge (z := x) (by omega)]
        simp only [ByteArray.append_assoc]
    · refine Ev.step (fun k => by rw [spec_l4Int.l0]) (ev_if_neg c (Ev.bind (Ev.now _) ?_))
      rw [dg_num h0 (by omega)]
      refine ev_if_pos (by rw [dg_size]; omega) (ev_if_pos (by rw [ByteArray.size_append, dg_size]; omega) (ev_some ?_))
      rw [decZ_lt (z := x) (by omega)]
theorem l4Int_ev (z : Int) (h : -9223372036854775808 ≤ z ∧ z ≤ 9223372036854775807) : Ev (fun k => spec_l4Int.f k z) (decS z) := by
  unfold spec_l4Int.f decS
  have em : ∀ a : ByteArray, a ++ (⟨#[]⟩ : ByteArray) = a := fun a => ByteArray.append_empty
  have en : ∀ a : ByteArray, (⟨#[]⟩ : ByteArray) ++ a = a := fun a => ByteArray.empty_append
  by_cases c : z < 0
  · rw [if_pos c]
    refine ev_if_pos c (Ev.step (fun k => by rw [spec_l4Int.j0]) ?_)
    have e : IntKind.u64.wrap ((IntKind.u64.wrap (wrap64 (-(wrap64 (z + 1))))) + 1) = -z := by
      rw [w64 (x := z + 1) (by omega) (by omega), w64 (by omega) (by omega), u64w (x := -(z + 1)) (by omega) (by omega), u64w (by omega) (by omega)]; omega
    rw [e]
    have := l4Int_l0 19 (-z) ⟨#[45]⟩ ⟨#[]⟩ (by omega) (Nat.lt_of_le_of_lt (show (-z).toNat ≤ 9223372036854775808 by omega) (by decide)) (by omega) (by decide) (by have : (⟨#[]⟩ : ByteArray).size = 0 := rfl; omega)
    rwa [em] at this
  · rw [if_neg c]
    refine ev_if_neg c (Ev.step (fun k => by rw [spec_l4Int.j0]) ?_)
    rw [u64w (by omega) (by omega)]
    have := l4Int_l0 19 z ⟨#[]⟩ ⟨#[]⟩ (by omega) (Nat.lt_of_le_of_lt (show z.toNat ≤ 9223372036854775808 by omega) (by decide)) (by omega) (by decide) (by have : (⟨#[]⟩ : ByteArray).size = 0 := rfl; omega)
    rwa [em, en] at this
end Go.Proofs.YtchhognpijobcaaDoor.G

/- G45 -/
-- Laid by wip/g/gprint.py out of the translation, by the kit's print program. Lean checks it.
namespace Go.Proofs.YtchhognpijobcaaDoor.G
open Go.RowKit Go.Proofs.YtchhognpijobcaaDoorW.PrintWords Go.Proofs.YtchhognpijobcaaDoorW.PrintLast Go.Proofs.YtchhognpijobcaaDoorW.PrintMore
attribute [local go_sem] max2_int min2_int max_two min_two max_three min_three max_four min_four   -- for this text's walks alone
set_option linter.unusedVariables false
set_option linter.unusedSimpArgs false

/-! ### strings_Join: function 45 -/
--IMPORT Derived.Test.YtchhognpijobcaaDoorShelf
def strings_Join.f (l0 : List ByteArray) (a1 : ByteArray) : Option ByteArray :=
  if l0.length ≤ 140737488355328 ∧ (Lib.join (l0.map (·.data.toList)) a1.data.toList).length ≤ 140737488355328 then some ⟨(Lib.join (l0.map (·.data.toList)) a1.data.toList).toArray⟩ else none
theorem strings_Join.calls (A0 : Option Addr) (c0 : Nat) (l0 : List ByteArray) (a1 : ByteArray) (r : ByteArray) (w : World) (hr0 : Kd.C Kd.string w A0 l0.length l0) (hc0 : l0.length ≤ c0) (h : strings_Join.f l0 a1 = some r) :
    Calls Tryd.prog 45 #[.slice A0 l0.length c0, .string a1] w fun e w' => e = .returned (.string r) ∧ Below w.heap.size w w' := by
  unfold strings_Join.f at h
  by_cases hl : l0.length ≤ 140737488355328 ∧ (Lib.join (l0.map (·.data.toList)) a1.data.toList).length ≤ 140737488355328
  · rw [if_pos hl] at h
    obtain rfl := Option.some.inj h
    rcases Nat.eq_zero_or_pos l0.length with h0 | h0
    · obtain rfl := List.eq_nil_of_length_eq_zero h0
      refine (Tryd.strings_Join_none A0 c0 a1 w).mono ?_
      rintro e w' ⟨rfl, rfl⟩
      exact ⟨rfl, Below.refl _ _⟩
    · obtain ⟨bk, o, rfl, hlt, hcells⟩ := C_cells (f := Value.string) (dflt := ByteArray.empty) (Kd.reads_of_C hr0) h0
      exact Tryd.strings_Join bk o c0 l0 a1 w hcells hlt hl.1 hc0 hl.2
  · rw [if_neg hl] at h
    cases h

end Go.Proofs.YtchhognpijobcaaDoor.G

/- PJoin -/
/-
  Joined strings: strings.Join, piece by piece.
-/
namespace Go.Proofs.YtchhognpijobcaaDoor.G
open Go.RowKit Go.Proofs.YtchhognpijobcaaDoorW.PrintWords Go.Proofs.YtchhognpijobcaaDoorW.PrintLast Go.Proofs.YtchhognpijobcaaDoorW.PrintMore
set_option linter.unusedVariables false
set_option linter.unusedSimpArgs false
def jn (xs : List ByteArray) (sep : ByteArray) : ByteArray := ⟨(Lib.join (xs.map (·.data.toList)) sep.data.toList).toArray⟩
theorem join_snoc (x s : List UInt8) : ∀ (ys : List (List UInt8)), Lib.join (ys ++ [x]) s = if ys = [] then x else Lib.join ys s ++ s ++ x
  | [] => by rw [if_pos rfl]; exact Lib.join_one x s
  | y :: ys => by
    rw [if_neg (by simp), List.cons_append, Lib.join_cons, Lib.join_cons]
    simp [Lib.joinTail, List.append_assoc]
theorem ba_eq {a b : ByteArray} (h : a.data.toList = b.data.toList) : a = b := by
  cases a; cases b; simp only at h; congr 1; exact Array.toList_inj.1 h
theorem jn_snoc (ys : List ByteArray) (x s : ByteArray) (h : ys ≠ []) : jn (ys ++ [x]) s = jn ys s ++ s ++ x := by
  apply ba_eq
  unfold jn
  rw [List.map_append, List.map_cons, List.map_nil, join_snoc, if_neg (by simpa using h)]
  simp [ByteArray.data_append]
theorem jn_one (x s : ByteArray) : jn [x] s = x := by
  apply ba_eq
  unfold jn
  rw [List.map_cons, List.map_nil, Lib.join_one]
theorem jn_nil (s : ByteArray) : jn [] s = ⟨#[]⟩ := rfl
theorem join_f (xs : List ByteArray) (s : ByteArray) (h : xs.length ≤ 140737488355328) (h' : (jn xs s).size ≤ 140737488355328) : strings_Join.f xs s = some (jn xs s) := by
  unfold strings_Join.f
  have e : (Lib.join (xs.map (·.data.toList)) s.data.toList).length = (jn xs s).size := by unfold jn ByteArray.size; simp
  rw [if_pos ⟨h, by rw [e]; exact h'⟩]; rfl
/-- A loop that writes the pieces behind a start, with a sign between them. -/
theorem jn_take_succ (xs : List ByteArray) (s a : ByteArray) {i : Nat} (hi : i < xs.length) : a ++ jn (xs.take (i + 1)) s = if 0 < i then (a ++ jn (xs.take i) s) ++ s ++ xs[i] else a ++ xs[i] := by
  rw [List.take_succ_eq_append_getElem hi]
  by_cases c : 0 < i
  · rw [if_pos c, jn_snoc _ _ _ (by intro h; have := congrArg List.length h; rw [List.length_take, List.length_nil] at this; omega)]
    simp only [ByteArray.append_assoc]
  · obtain rfl : i = 0 := by omega
    rw [if_neg (by omega), List.take_zero, List.nil_append, jn_one]
end Go.Proofs.YtchhognpijobcaaDoor.G

/- PStr0 -/
/-
  Lists of texts: read, well formed.
-/
namespace Go.Proofs.YtchhognpijobcaaDoor.G
open Go.RowKit Go.Proofs.YtchhognpijobcaaDoorW.PrintWords Go.Proofs.YtchhognpijobcaaDoorW.PrintLast Go.Proofs.YtchhognpijobcaaDoorW.PrintMore
set_option linter.unusedVariables false
set_option linter.unusedSimpArgs false
theorem rdS {xs : List ByteArray} {i : Nat} (h : i < xs.length) : rdOf ByteArray.empty xs (i : Int) = xs[i] := by unfold rdOf; rw [Int.toNat_natCast]; exact getD_at h _
def wfStrs (xs : List ByteArray) : Prop := xs.length ≤ 9223372036854775807 ∧ ∀ x ∈ xs, x.size ≤ 9223372036854775807
theorem wfStrs_at {xs : List ByteArray} (h : wfStrs xs) {i : Nat} (hi : i < xs.length) : (rdOf ByteArray.empty xs (i : Int)).size ≤ 9223372036854775807 := by rw [rdS hi]; exact h.2 _ (List.getElem_mem hi)

end Go.Proofs.YtchhognpijobcaaDoor.G
