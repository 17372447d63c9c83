import Derived.Test.YtbdegifmcppciaaMFnFitted0
import Derived.Lib.Hide
import Derived.Lib.SliceRun
import Derived.WalkKit
import Derived.IntWalk
import Derived.Deep.LoopGhost
import Derived.WalkLawsBesides
import Derived.Test.YtbdegifmcppciaaProg
import Derived.Below
import Derived.Deep.Draws
import Derived.Deep.AppendLies
import Derived.Maps.AppendAt
import Derived.OwnWalk
import Derived.Laws.BytesArg
import Derived.Laws.MakeOwn
import Derived.Laws.OwnMore
import Derived.Deep.OwnRows
import Derived.Tactics
import Derived.Lib.ConvBytes
import Derived.Laws.Slices
import Derived.KernelRfl
import Derived.RowKit3
import Derived.Deep.QuietTactic
import Derived.BigQuiet
import Derived.WideLaws
import Derived.Deep.DeepCutAuto
import Derived.Deep.CutBlock
import Derived.Deep.RegionHeld3
import Derived.Laws.Rows
import Derived.Lib.AppendStr
import Derived.ArgAppend
import Derived.Laws.IdiomCopy
import Derived.OrdersHeld
import Derived.Laws.BitsLemmas
import Derived.RowKit
import Derived.WideShapes
import Derived.Handy
import Derived.Deep.DrawnRows
import Derived.BigRegion
/- GKit -/
/-
  Small words beside the print's: lists searched by a test that may lack an answer, rows that stand below a growing world.
-/
namespace Go.Proofs.Ytbdegifmcppciaa.G
open Go.RowKit Go.Proofs.YtbdegifmcppciaaW.PrintWords Go.Proofs.YtbdegifmcppciaaW.PrintLast Go.Proofs.YtbdegifmcppciaaW.PrintMore
set_option linter.unusedVariables false

theorem getD_at {α : Type} {xs : List α} {k : Nat} (hk : k < xs.length) (z : α) : xs.getD k z = xs[k] := by
  rw [List.getD_eq_getElem?_getD, List.getElem?_eq_getElem hk]; rfl
theorem below_trans {w w1 w2 : World} (h : Below w.heap.size w w1) (k : Below w1.heap.size w1 w2) : Below w.heap.size w w2 := below_then h h.size k
section
variable {α : Type} {d : Kd α} {e base n c : Nat} {ok : Nat → Prop} {w : World} {A : Option Addr} {xs : List α}
end

/-! ### slices.DeleteFunc: what it leaves, and the state of its loop -/
def delO {α : Type} (p : α → Option Bool) : List α → Option (List α)
  | [] => some []
  | x :: xs => (p x).bind fun b => (delO p xs).bind fun ys => some (if b then ys else x :: ys)
structure DelSt {α : Type} (d : Kd α) (e : Nat) (p : α → Option Bool) (l0 r : List α) (ok : Nat → Prop) (w0 w : World) (g : Nat) (cur : Array Value) (m j : Nat) (wr : World) : Prop where
  st : ∃ (cur' : Array Value) (ys r2 : List α), ys.length = m ∧ wr.heap[g]? = some (.cells cur' e (0, 0)) ∧ cur'.size = cur.size ∧ cur'.toList.drop (j * d.sz) = cur.toList.drop (j * d.sz) ∧
    Reps (d.M wr w0.heap.size (fun k => ok k ∧ k ≠ g)) d.sz ys (cur'.toList.take (m * d.sz)) ∧ delO p (l0.drop j) = some r2 ∧ r = ys ++ r2
  kept : Kept w wr (fun k => k = g)
  below : Below w0.heap.size w0 wr
  pos : m < j
section
variable {α : Type} {d : Kd α} {e c : Nat} {p : α → Option Bool} {l0 r : List α} {ok : Nat → Prop} {w0 w wr W : World} {g m j : Nat} {cur : Array Value}
end
end Go.Proofs.Ytbdegifmcppciaa.G

/- G0 -/
-- Laid by wip/g/gprint.py out of the translation, by the kit's print program. Lean checks it.
namespace Go.Proofs.Ytbdegifmcppciaa.G
open Go.RowKit Go.Proofs.YtbdegifmcppciaaW.PrintWords Go.Proofs.YtbdegifmcppciaaW.PrintLast Go.Proofs.YtbdegifmcppciaaW.PrintMore
attribute [local go_sem] max2_int min2_int max_two min_two max_three min_three max_four min_four   -- for this text's walks alone
set_option linter.unusedVariables false
set_option linter.unusedSimpArgs false

def errW : Option Int → Value
  | none => .nilIface
  | some c => .iface 0 (.int .i64 c)
theorem errW_none : errW none = .nilIface := rfl
theorem errW_some (c : Int) : errW (some c) = .iface 0 (.int .i64 c) := rfl

-- the values' own types
/-! #### struct type 66 -/
structure S66 where
  f0 : ByteArray
  f1 : ByteArray
/-! #### struct type 67 -/
structure S67 where
  f0 : ByteArray
  f1 : ByteArray
end Go.Proofs.Ytbdegifmcppciaa.G

/- PBase -/
/-
  Plain facts under the laws: wraps, sizes that are counted down, marks.
-/
namespace Go.Proofs.Ytbdegifmcppciaa.G
open Go.RowKit Go.Proofs.YtbdegifmcppciaaW.PrintWords Go.Proofs.YtbdegifmcppciaaW.PrintLast Go.Proofs.YtbdegifmcppciaaW.PrintMore
set_option linter.unusedVariables false
set_option linter.unusedSimpArgs false

theorem w64 {x : Int} (h : -9223372036854775808 ≤ x) (h' : x ≤ 9223372036854775807) : wrap64 x = x := by unfold wrap64; omega
theorem ev_if_pos {α : Type} {c : Prop} [Decidable c] {g f : Nat → Option α} {r : α} (h : c) (k : Ev g r) : Ev (fun n => if c then g n else f n) r := Ev.congr (fun n => if_pos h) k
theorem ev_if_neg {α : Type} {c : Prop} [Decidable c] {g f : Nat → Option α} {r : α} (h : ¬ c) (k : Ev f r) : Ev (fun n => if c then g n else f n) r := Ev.congr (fun n => if_neg h) k
/-! ### loops -/
theorem wsucc {i n : Nat} (h : i < n) (hn : n ≤ 9223372036854775807) : wrap64 ((i : Int) + 1) = ((i + 1 : Nat) : Int) := by rw [w64 (by omega) (by omega)]; rfl
end Go.Proofs.Ytbdegifmcppciaa.G

/- G56 -/
-- Laid by wip/g/gprint.py out of the translation, by the kit's print program. Lean checks it.
namespace Go.Proofs.Ytbdegifmcppciaa.G
open Go.RowKit Go.Proofs.YtbdegifmcppciaaW.PrintWords Go.Proofs.YtbdegifmcppciaaW.PrintLast Go.Proofs.YtbdegifmcppciaaW.PrintMore
attribute [local go_sem] max2_int min2_int max_two min_two max_three min_three max_four min_four   -- for this text's walks alone
set_option linter.unusedVariables false
set_option linter.unusedSimpArgs false

/-- A state of type 75 at block g of W; what its slices lead to came in by w0. -/
def IsS75 (w0 W : World) (g : Nat) (f0 : List Int) (f1 : Int) (f2 : Int) : Prop := ∃ A0 c0, W.heap[g]? = some (.cells #[.slice A0 f0.length c0, .int .i64 f1, .int .i64 f2] 75 (0, 0)) ∧ w0.heap.size ≤ g ∧ Kd.C (Kd.int .u8) w0 A0 f0.length f0
theorem IsS75.grown {w0 W : World} {g : Nat} {f0 : List Int} {f1 : Int} {f2 : Int} {W1 : World} {row : Option Nat} (h : IsS75 w0 W g f0 f1 f2) (hw : W.grownBy W1 row) (hne : some g ≠ row) : IsS75 w0 W1 g f0 f1 f2 := by
  obtain ⟨A0, c0, hb, hg, hr0⟩ := h
  exact ⟨A0, c0, blk_grown hb hw hne, hg, hr0⟩
theorem IsS75.kept {w0 W : World} {g : Nat} {f0 : List Int} {f1 : Int} {f2 : Int} {W1 : World} {S : Nat → Prop} (h : IsS75 w0 W g f0 f1 f2) (hk : Kept W W1 S) (hne : ¬ S g) : IsS75 w0 W1 g f0 f1 f2 := by
  obtain ⟨A0, c0, hb, hg, hr0⟩ := h
  exact ⟨A0, c0, blk_kept hb hk hne, hg, hr0⟩
theorem IsS75.below {w0 W : World} {g : Nat} {f0 : List Int} {f1 : Int} {f2 : Int} {W1 : World} (h : IsS75 w0 W g f0 f1 f2) (hw : Below W.heap.size W W1) : IsS75 w0 W1 g f0 f1 f2 := h.grown (grown_of_below hw none) (by simp)
theorem IsS75.alloc {w0 W : World} {g : Nat} {f0 : List Int} {f1 : Int} {f2 : Int} (h : IsS75 w0 W g f0 f1 f2) (o : Obj) : IsS75 w0 (W.alloc o) g f0 f1 f2 := h.below (below_alloc (Below.refl _ _) o)
theorem IsS75.drewN {w0 W : World} {g : Nat} {f0 : List Int} {f1 : Int} {f2 : Int} (h : IsS75 w0 W g f0 f1 f2) (m : Nat) : IsS75 w0 (W.drewN m) g f0 f1 f2 := h
theorem IsS75.drew {w0 W : World} {g : Nat} {f0 : List Int} {f1 : Int} {f2 : Int} (h : IsS75 w0 W g f0 f1 f2) : IsS75 w0 W.drew g f0 f1 f2 := h
theorem IsS75.at_ {w0 W : World} {g : Nat} {f0 : List Int} {f1 : Int} {f2 : Int} {w' : World} {m : Nat} (hq : W.drewN m = w') (h : IsS75 w0 W g f0 f1 f2) : IsS75 w0 w' g f0 f1 f2 := by subst hq; exact IsS75.drewN h m
theorem IsS75.apart {w0 W : World} {g : Nat} {f0 : List Int} {f1 : Int} {f2 : Int} {α : Type} {d : Kd α} {e : Nat} {base : Nat} {ok : Nat → Prop} {v : Value} {xs : List α} (h : IsS75 w0 W g f0 f1 f2) (ho : d.R e W base ok v xs) (ht : ∀ q, q ∈ e :: d.E → q ≠ 75) : d.R e W base (fun k => ok k ∧ k ≠ g) v xs := by
  obtain ⟨A0, c0, hb, hg, hr0⟩ := h
  exact Kd.R_types ho hb ht
theorem IsS75.own_ne {w0 W : World} {g : Nat} {f0 : List Int} {f1 : Int} {f2 : Int} {α : Type} {d : Kd α} {e : Nat} {base : Nat} {ok : Nat → Prop} {v : Value} {xs : List α} (h : IsS75 w0 W g f0 f1 f2) (ho : d.R e W base ok v xs) (ht : e ≠ 75) : some g ≠ v.ownBlock := by
  obtain ⟨A0, c0, hb, hg, hr0⟩ := h
  exact Kd.R_ne ho hb ht
theorem IsS75.lt {w0 W : World} {g : Nat} {f0 : List Int} {f1 : Int} {f2 : Int} (h : IsS75 w0 W g f0 f1 f2) : g < W.heap.size := by
  obtain ⟨A0, c0, hb, hg, hr0⟩ := h
  exact blk_lt hb
theorem IsS75.ge {w0 W : World} {g : Nat} {f0 : List Int} {f1 : Int} {f2 : Int} (h : IsS75 w0 W g f0 f1 f2) : w0.heap.size ≤ g := by
  obtain ⟨A0, c0, hb, hg, hr0⟩ := h
  exact hg
theorem IsS75.ne_blk {w0 W : World} {g : Nat} {f0 : List Int} {f1 : Int} {f2 : Int} {a : Nat} {cs : Array Value} {t : TypeId} {fr : Nat × Nat} (h : IsS75 w0 W g f0 f1 f2) (hb2 : W.heap[a]? = some (.cells cs t fr)) (ht : t ≠ 75) : g ≠ a := by
  obtain ⟨A0, c0, hb, hg, hr0⟩ := h
  rintro rfl
  rw [hb] at hb2
  injection hb2 with hb2
  injection hb2 with _ ht2
  exact ht ht2.symm
theorem IsS75.far {w0 W : World} {g : Nat} {f0 : List Int} {f1 : Int} {f2 : Int} {p : Addr} (h : IsS75 w0 W g f0 f1 f2) (hne : g ≠ p.block) (u : Value) : IsS75 w0 (W.setCell p u) g f0 f1 f2 := by
  obtain ⟨A0, c0, hb, hg, hr0⟩ := h
  exact ⟨A0, c0, blk_far hb hne u, hg, hr0⟩
theorem cellS75_0 {W : World} {g : Nat} {A0 : Option Addr} {c0 : Nat} {f0 : List Int} {f1 : Int} {f2 : Int} (h : W.heap[g]? = some (.cells #[.slice A0 f0.length c0, .int .i64 f1, .int .i64 f2] 75 (0, 0))) : W.cell? ⟨g, 0, none⟩ = some (.slice A0 f0.length c0) := (blk_cell h 0).trans rfl
theorem cellS75_1 {W : World} {g : Nat} {A0 : Option Addr} {c0 : Nat} {f0 : List Int} {f1 : Int} {f2 : Int} (h : W.heap[g]? = some (.cells #[.slice A0 f0.length c0, .int .i64 f1, .int .i64 f2] 75 (0, 0))) : W.cell? ⟨g, 1, none⟩ = some (.int .i64 f1) := (blk_cell h 1).trans rfl
theorem IsS75.set_1 {w0 W : World} {g : Nat} {f0 : List Int} {f1 : Int} {f2 : Int} (h : IsS75 w0 W g f0 f1 f2) (x : Int) : IsS75 w0 (W.setCell ⟨g, 1, none⟩ (.int .i64 x)) g f0 x f2 := by
  obtain ⟨A0, c0, hb, hg, hr0⟩ := h
  exact ⟨A0, c0, by simpa using blk_set hb 1 (.int .i64 x), hg, hr0⟩
theorem cellS75_2 {W : World} {g : Nat} {A0 : Option Addr} {c0 : Nat} {f0 : List Int} {f1 : Int} {f2 : Int} (h : W.heap[g]? = some (.cells #[.slice A0 f0.length c0, .int .i64 f1, .int .i64 f2] 75 (0, 0))) : W.cell? ⟨g, 2, none⟩ = some (.int .i64 f2) := (blk_cell h 2).trans rfl
theorem IsS75.set_2 {w0 W : World} {g : Nat} {f0 : List Int} {f1 : Int} {f2 : Int} (h : IsS75 w0 W g f0 f1 f2) (x : Int) : IsS75 w0 (W.setCell ⟨g, 2, none⟩ (.int .i64 x)) g f0 f1 x := by
  obtain ⟨A0, c0, hb, hg, hr0⟩ := h
  exact ⟨A0, c0, by simpa using blk_set hb 2 (.int .i64 x), hg, hr0⟩
/-! ### spec_l1New: function 56 -/
def spec_l1New.l0 : Nat → List Int → Int → Int → Option (List Int × Int × Int)
  | 0, _, _, _ => none
  | k + 1, x0, x3, x4 => if x4 < (x0.length : Int) then (if x4 < 4000 then (if 0 ≤ x4 then (spec_l1New.l0 k x0 (Go.bits .and .i64 (wrap64 ((wrap64 ((wrap64 (x3 * 137)) + (wrap64 (rd x0 x4)))) + 11)) 1073741823) (wrap64 (x4 + 1))) else (none)) else (some (x0, 0, x3))) else (some (x0, 0, x3))
def spec_l1New.f (k : Nat) (l0 : List Int) : Option (List Int × Int × Int) := spec_l1New.l0 k l0 (wrap64 (138138 + (l0.length : Int))) 0
set_option maxHeartbeats 8000000 in
set_option maxRecDepth 100000 in
theorem spec_l1New.calls (k : Nat) (A0 : Option Addr) (c0 : Nat) (l0 : List Int) (r1 : List Int) (r2 : Int) (r3 : Int) (w0 w : World) (hB : Below w0.heap.size w0 w) (hr0 : Kd.C (Kd.int .u8) w0 A0 l0.length l0) (hc0 : l0.length ≤ c0) (h : spec_l1New.f k l0 = some (r1, r2, r3)) :
    Calls Try.prog 56 #[.slice A0 l0.length c0] w fun e w' => ∃ g_ : Nat, e = .returned (.pointer (some ⟨g_, 0, none⟩)) ∧ IsS75 w0 w' g_ r1 r2 r3 ∧ Below w0.heap.size w0 w' ∧ Below w.heap.size w w' := by
  have hu75 := Try.underlying75
  have HR0 := Aside0.mk hr0
  have HC0 := Aside0.mk hc0
  clear hr0 hc0
  have HBW := Aside0.mk (Below.refl w.heap.size w)
  have HW0 := Aside0.mk hB.size
  have HB := Aside0.mk hB
  clear hB
  have H : (spec_l1New.l0 k l0 (wrap64 (138138 + (l0.length : Int))) 0) = some (r1, r2, r3) := h
  clear h
  have H' := Aside0.mk H
  clear H
  go_enter Try.func56, Try.ntmps56
  go_wp2
  go_loopg [3, 4] k (fun kq v3 v4 w' => ∃ (x3_1 : Int) (x4_1 : Int), v3 = .int .i64 x3_1 ∧ v4 = .int .i64 x4_1 ∧ Aside0 (spec_l1New.l0 kq l0 x3_1 x4_1 = some (r1, r2, r3)) ∧ Aside0 (kq ≤ k) ∧ Aside0 (Below w0.heap.size w0 w') ∧ Aside0 (Below w.heap.size w w'))
  case atStart => exact ⟨(wrap64 (138138 + (l0.length : Int))), (0), (by first | rfl | (simp; done) | (simp [*]; done)), (by first | rfl | (simp; done) | (simp [*]; done)), H', ⟨Nat.le_refl _⟩, ⟨by repeat (first | (with_reducible first | exact HB.out | apply below_alloc | apply pw_below_drewN | apply below_drew1) | exact HB.out)⟩, ⟨by repeat (first | (with_reducible first | exact HBW.out | apply below_alloc | apply pw_below_drewN | apply below_drew1) | exact HBW.out)⟩⟩
  case round =>
    clear H'
    obtain ⟨x3_1, x4_1, rfl, rfl, HA, HK1, HB, HBW⟩ := hrel
    cases gk with
    | zero => exact absurd HA.out (by simp [spec_l1New.l0])
    | succ k1 =>
      have H := HA.out
      clear HA
      simp only [spec_l1New.l0] at H
      by_cases c2 : x4_1 < (l0.length : Int)
      · rw [if_pos c2] at H
        have c2b0 : decide (x4_1 < (l0.length : Int)) = true := decide_eq_true c2
        clear c2
        by_cases c3 : x4_1 < 4000
        · rw [if_pos c3] at H
          have c3b0 : decide (x4_1 < 4000) = true := decide_eq_true c3
          clear c3
          by_cases c4 : 0 ≤ x4_1
          · rw [if_pos c4] at H
            have c4b0 : decide (0 ≤ x4_1) = true := decide_eq_true c4
            clear c4
            have H' := Aside0.mk H
            clear H
            have p245 : 0 ≤ (x4_1 : Int) := of_decide_eq_true (by first | (with_reducible assumption) | assumption)
            have q245 : x4_1 < (l0.length : Int) := of_decide_eq_true (by first | (with_reducible assumption) | assumption)
            obtain ⟨ad245, e245, hx245_0⟩ := Kd.at_int HR0.out x4_1 p245 q245
            cases e245
            replace hx245_0 := pw_cell_below HB.out hx245_0
            replace p245 := eq_true p245
            replace q245 := eq_true q245
            go_wp2
            go_roundg k1
            case measure => have := HK1.out; omega
            case rel => exact ⟨(Go.bits .and .i64 (wrap64 ((wrap64 ((wrap64 (x3_1 * 137)) + (wrap64 (rd l0 x4_1)))) + 11)) 1073741823), (wrap64 (x4_1 + 1)), (by first | rfl | (simp; done) | (simp [*]; done)), (by first | rfl | (simp; done) | (simp [*]; done)), H', ⟨by have := HK1.out; omega⟩, ⟨by repeat (first | (with_reducible first | exact HB.out | apply below_alloc | apply pw_below_drewN | apply below_drew1) | exact HB.out)⟩, ⟨by repeat (first | (with_reducible first | exact HBW.out | apply below_alloc | apply pw_below_drewN | apply below_drew1) | exact HBW.out)⟩⟩
          · rw [if_neg c4] at H
            exact absurd H (by simp)
        · rw [if_neg c3] at H
          have c3b0 : decide (x4_1 < 4000) = false := decide_eq_false c3
          clear c3
          simp only [Option.some.injEq, Prod.mk.injEq] at H
          obtain ⟨rfl, rfl, rfl⟩ := H
          go_wp2_with (first | ((with_reducible refine gate_dst (N := 31) rfl ?_); refine box_event ?hg (N := 31) ?hd (cs := #[.slice A0 l0.length c0, .int .i64 0, .int .i64 x3_1]) (t := 75) ?hr ?_; (case hd => rfl); (case hg => rfl); (case hr => first | (go_simp; done) | (go_simp; rfl)); intro gb246 hg w5 hbox hb; have n0_ := Aside0.mk (below_step HBW.out hb); have n1_ := Aside0.mk (below_step (by repeat (first | (with_reducible first | exact HB.out | apply below_alloc | apply pw_below_drewN | apply below_drew1) | exact HB.out)) hb); have n2_ := Aside0.mk (hbox); have n3_ := Aside0.mk ((by rw [hg]; exact (below_size (by repeat (first | (with_reducible first | exact HBW.out | apply below_alloc | apply pw_below_drewN | apply below_drew1) | exact HBW.out))) : w.heap.size ≤ gb246)); have n4_ := Aside0.mk ((Nat.le_trans HW0.out (by rw [hg]; exact (below_size (by repeat (first | (with_reducible first | exact HBW.out | apply below_alloc | apply pw_below_drewN | apply below_drew1) | exact HBW.out))) : w.heap.size ≤ gb246) : w0.heap.size ≤ gb246)); clear HBW; clear HB; have HBW := n0_; have HB := n1_; have BK246 := n2_; have GW246 := n3_; have GE246 := n4_; clear n0_ n1_ n2_ n3_ n4_; clear hb hbox hg))
          go_ret
          exact ⟨_, rfl, (show IsS75 w0 _ gb246 l0 0 x3_1 from ⟨_, _, by (with_reducible repeat (first | refine blk_drewN ?_ _ | refine blk_drew ?_ | refine blk_alloc ?_ _)); exact BK246.out, GE246.out, HR0.out⟩), by repeat (first | (with_reducible first | exact HB.out | apply below_alloc | apply pw_below_drewN | apply below_drew1 | refine below_set ?_ GE246.out) | exact HB.out), by repeat (first | (with_reducible first | exact HBW.out | apply below_alloc | apply pw_below_drewN | apply below_drew1 | refine below_set ?_ GW246.out) | exact HBW.out)⟩
      · rw [if_neg c2] at H
        have c2b0 : decide (x4_1 < (l0.length : Int)) = false := decide_eq_false c2
        clear c2
        simp only [Option.some.injEq, Prod.mk.injEq] at H
        obtain ⟨rfl, rfl, rfl⟩ := H
        go_wp2_with (first | ((with_reducible refine gate_dst (N := 31) rfl ?_); refine box_event ?hg (N := 31) ?hd (cs := #[.slice A0 l0.length c0, .int .i64 0, .int .i64 x3_1]) (t := 75) ?hr ?_; (case hd => rfl); (case hg => rfl); (case hr => first | (go_simp; done) | (go_simp; rfl)); intro gb247 hg w6 hbox hb; have n0_ := Aside0.mk (below_step HBW.out hb); have n1_ := Aside0.mk (below_step (by repeat (first | (with_reducible first | exact HB.out | apply below_alloc | apply pw_below_drewN | apply below_drew1) | exact HB.out)) hb); have n2_ := Aside0.mk (hbox); have n3_ := Aside0.mk ((by rw [hg]; exact (below_size (by repeat (first | (with_reducible first | exact HBW.out | apply below_alloc | apply pw_below_drewN | apply below_drew1) | exact HBW.out))) : w.heap.size ≤ gb247)); have n4_ := Aside0.mk ((Nat.le_trans HW0.out (by rw [hg]; exact (below_size (by repeat (first | (with_reducible first | exact HBW.out | apply below_alloc | apply pw_below_drewN | apply below_drew1) | exact HBW.out))) : w.heap.size ≤ gb247) : w0.heap.size ≤ gb247)); clear HBW; clear HB; have HBW := n0_; have HB := n1_; have BK247 := n2_; have GW247 := n3_; have GE247 := n4_; clear n0_ n1_ n2_ n3_ n4_; clear hb hbox hg))
        go_ret
        exact ⟨_, rfl, (show IsS75 w0 _ gb247 l0 0 x3_1 from ⟨_, _, by (with_reducible repeat (first | refine blk_drewN ?_ _ | refine blk_drew ?_ | refine blk_alloc ?_ _)); exact BK247.out, GE247.out, HR0.out⟩), by repeat (first | (with_reducible first | exact HB.out | apply below_alloc | apply pw_below_drewN | apply below_drew1 | refine below_set ?_ GE247.out) | exact HB.out), by repeat (first | (with_reducible first | exact HBW.out | apply below_alloc | apply pw_below_drewN | apply below_drew1 | refine below_set ?_ GW247.out) | exact HBW.out)⟩

end Go.Proofs.Ytbdegifmcppciaa.G

/- G66 -/
-- Laid by wip/g/gprint.py out of the translation, by the kit's print program. Lean checks it.
namespace Go.Proofs.Ytbdegifmcppciaa.G
open Go.RowKit Go.Proofs.YtbdegifmcppciaaW.PrintWords Go.Proofs.YtbdegifmcppciaaW.PrintLast Go.Proofs.YtbdegifmcppciaaW.PrintMore
attribute [local go_sem] max2_int min2_int max_two min_two max_three min_three max_four min_four   -- for this text's walks alone
set_option linter.unusedVariables false
set_option linter.unusedSimpArgs false

/-! ### spec_l1Byte: function 66 -/
def spec_l1Byte.f (s0_0 : List Int) (s0_1 : Int) (s0_2 : Int) : Option (Int × Int × Int) := if s0_1 < (s0_0.length : Int) then (if 0 ≤ s0_1 then (some (Go.bits .and .i64 (wrap64 ((Go.bits .and .i64 (Go.bits .xor .i64 ((wrap64 ((wrap64 (s0_2 * 6364136223846793005)) + 1442695040888963407)) / 8589934592) ((wrap64 ((wrap64 (s0_2 * 6364136223846793005)) + 1442695040888963407)) / 140737488355328)) 255) + (wrap64 (rd s0_0 s0_1)))) 255, wrap64 (s0_1 + 1), wrap64 ((wrap64 (s0_2 * 6364136223846793005)) + 1442695040888963407))) else (none)) else (some (Go.bits .and .i64 (Go.bits .xor .i64 ((wrap64 ((wrap64 (s0_2 * 6364136223846793005)) + 1442695040888963407)) / 8589934592) ((wrap64 ((wrap64 (s0_2 * 6364136223846793005)) + 1442695040888963407)) / 140737488355328)) 255, s0_1, wrap64 ((wrap64 (s0_2 * 6364136223846793005)) + 1442695040888963407)))
set_option maxHeartbeats 8000000 in
set_option maxRecDepth 100000 in
theorem spec_l1Byte.calls (g : Nat) (s0_0 : List Int) (s0_1 : Int) (s0_2 : Int) (r1 : Int) (r2 : Int) (r3 : Int) (w0 w : World) (hI : IsS75 w0 w g s0_0 s0_1 s0_2) (hB : Below w0.heap.size w0 w) (h : spec_l1Byte.f s0_0 s0_1 s0_2 = some (r1, r2, r3)) :
    Calls Try.prog 66 #[.pointer (some ⟨g, 0, none⟩)] w fun e w' => e = .returned (.int .i64 r1) ∧ IsS75 w0 w' g s0_0 r2 r3 ∧ Below w0.heap.size w0 w' ∧ KeepBut w w' g none := by
  have HI0 := Aside0.mk hI
  have HK := Aside0.mk (KeepBut.refl w g none)
  have HL := Aside0.mk hB.size
  clear hI
  have HW0 := Aside0.mk hB.size
  have HB := Aside0.mk hB
  clear hB
  have H : (if s0_1 < (s0_0.length : Int) then (if 0 ≤ s0_1 then (some (Go.bits .and .i64 (wrap64 ((Go.bits .and .i64 (Go.bits .xor .i64 ((wrap64 ((wrap64 (s0_2 * 6364136223846793005)) + 1442695040888963407)) / 8589934592) ((wrap64 ((wrap64 (s0_2 * 6364136223846793005)) + 1442695040888963407)) / 140737488355328)) 255) + (wrap64 (rd s0_0 s0_1)))) 255, wrap64 (s0_1 + 1), wrap64 ((wrap64 (s0_2 * 6364136223846793005)) + 1442695040888963407))) else (none)) else (some (Go.bits .and .i64 (Go.bits .xor .i64 ((wrap64 ((wrap64 (s0_2 * 6364136223846793005)) + 1442695040888963407)) / 8589934592) ((wrap64 ((wrap64 (s0_2 * 6364136223846793005)) + 1442695040888963407)) / 140737488355328)) 255, s0_1, wrap64 ((wrap64 (s0_2 * 6364136223846793005)) + 1442695040888963407)))) = some (r1, r2, r3) := h
  clear h
  by_cases c2 : s0_1 < (s0_0.length : Int)
  · rw [if_pos c2] at H
    have c2b0 : decide (s0_1 < (s0_0.length : Int)) = true := decide_eq_true c2
    clear c2
    by_cases c3 : 0 ≤ s0_1
    · rw [if_pos c3] at H
      have c3b0 : decide (0 ≤ s0_1) = true := decide_eq_true c3
      clear c3
      simp only [Option.some.injEq, Prod.mk.injEq] at H
      obtain ⟨rfl, rfl, rfl⟩ := H
      obtain ⟨ASz4_0, cSz4_0, HGz4, hgz4, HSz4_0⟩ := HI0.out
      have hcz4_0 := cellS75_0 HGz4
      have hcz4_1 := cellS75_1 HGz4
      have hcz4_2 := cellS75_2 HGz4
      have hfz4_1 := blk_frozen HGz4 1
      have hfz4_2 := blk_frozen HGz4 2
      clear HGz4 hgz4
      have p248 : 0 ≤ (s0_1 : Int) := of_decide_eq_true (by first | (with_reducible assumption) | assumption)
      have q248 : s0_1 < (s0_0.length : Int) := of_decide_eq_true (by first | (with_reducible assumption) | assumption)
      obtain ⟨ad248, e248, hx248_0⟩ := Kd.at_int HSz4_0 s0_1 p248 q248
      cases e248
      have hn248_0 : ad248.block ≠ g := Nat.ne_of_lt (Nat.lt_of_lt_of_le (by have := World.block_lt_of_cell? _ _ hx248_0; first | rwa [add_block] at this | exact this) (IsS75.ge HI0.out))
      replace hx248_0 := pw_cell_below HB.out hx248_0
      replace hx248_0 := (cell_far (p := ⟨g, 2, none⟩) (by first | (rw [add_block]; exact hn248_0) | (show (Addr.add _ _).block ≠ _; rw [add_block]; exact hn248_0) | exact hn248_0) (.int .i64 (wrap64 ((wrap64 (s0_2 * 6364136223846793005)) + 1442695040888963407)))).trans hx248_0
      (try have hy248_0 := fun (n_ : Nat) => (show (((w.drewN n_).setCell ⟨g, 2, none⟩ (.int .i64 (wrap64 ((wrap64 (s0_2 * 6364136223846793005)) + 1442695040888963407))))).cell? _ = some _ from hx248_0))
      clear hn248_0
      replace p248 := eq_true p248
      replace q248 := eq_true q248
      go_enter Try.func66, Try.ntmps66
      go_wp2
      repeat (go_quiet (fail); try go_wp2)
      go_ret
      exact ⟨by first | rfl | (simp [errW_none, errW_some] <;> rfl) | (simp [*, errW_none, errW_some] <;> rfl), by repeat (first | (with_reducible first | exact HI0.out | apply IsS75.alloc | apply IsS75.drewN | apply IsS75.drew | apply IsS75.set_1 | apply IsS75.set_2) | exact HI0.out), by repeat (first | (with_reducible first | exact HB.out | apply below_alloc | apply pw_below_drewN | apply below_drew1 | refine below_set ?_ (IsS75.ge HI0.out)) | exact HB.out), by repeat (first | (with_reducible first | exact HK.out | apply KeepBut.set_ | apply keep_drewN | apply keep_drew | apply keep_alloc) | exact HK.out)⟩
    · rw [if_neg c3] at H
      exact absurd H (by simp)
  · rw [if_neg c2] at H
    have c2b0 : decide (s0_1 < (s0_0.length : Int)) = false := decide_eq_false c2
    clear c2
    simp only [Option.some.injEq, Prod.mk.injEq] at H
    obtain ⟨rfl, rfl, rfl⟩ := H
    obtain ⟨ASz5_0, cSz5_0, HGz5, hgz5, HSz5_0⟩ := HI0.out
    have hcz5_0 := cellS75_0 HGz5
    have hcz5_1 := cellS75_1 HGz5
    have hcz5_2 := cellS75_2 HGz5
    have hfz5_1 := blk_frozen HGz5 1
    have hfz5_2 := blk_frozen HGz5 2
    clear HGz5 hgz5
    go_enter Try.func66, Try.ntmps66
    go_wp2
    repeat (go_quiet (fail); try go_wp2)
    go_ret
    exact ⟨by first | rfl | (simp [errW_none, errW_some] <;> rfl) | (simp [*, errW_none, errW_some] <;> rfl), by repeat (first | (with_reducible first | exact HI0.out | apply IsS75.alloc | apply IsS75.drewN | apply IsS75.drew | apply IsS75.set_1 | apply IsS75.set_2) | exact HI0.out), by repeat (first | (with_reducible first | exact HB.out | apply below_alloc | apply pw_below_drewN | apply below_drew1 | refine below_set ?_ (IsS75.ge HI0.out)) | exact HB.out), by repeat (first | (with_reducible first | exact HK.out | apply KeepBut.set_ | apply keep_drewN | apply keep_drew | apply keep_alloc) | exact HK.out)⟩

end Go.Proofs.Ytbdegifmcppciaa.G

/- G64 -/
-- Laid by wip/g/gprint.py out of the translation, by the kit's print program. Lean checks it.
namespace Go.Proofs.Ytbdegifmcppciaa.G
open Go.RowKit Go.Proofs.YtbdegifmcppciaaW.PrintWords Go.Proofs.YtbdegifmcppciaaW.PrintLast Go.Proofs.YtbdegifmcppciaaW.PrintMore
attribute [local go_sem] max2_int min2_int max_two min_two max_three min_three max_four min_four   -- for this text's walks alone
set_option linter.unusedVariables false
set_option linter.unusedSimpArgs false

/-! ### spec_l1Below: function 64 -/
def spec_l1Below.f (s0_0 : List Int) (s0_1 : Int) (s0_2 : Int) (a1 : Int) : Option (Int × Int × Int) := if a1 ≤ 0 then (some (0, s0_1, s0_2)) else (if a1 ≤ 256 then ((spec_l1Byte.f s0_0 s0_1 s0_2).bind fun bt249 => (if a1 = 0 then (none) else (some (Int.tmod bt249.1 a1, bt249.2.1, bt249.2.2)))) else ((spec_l1Byte.f s0_0 s0_1 s0_2).bind fun bt252 => ((spec_l1Byte.f s0_0 bt252.2.1 bt252.2.2).bind fun bt255 => ((spec_l1Byte.f s0_0 bt255.2.1 bt255.2.2).bind fun bt258 => (if a1 = 0 then (none) else (some (Int.tmod (wrap64 ((wrap64 ((wrap64 (bt252.1 * 65536)) + (wrap64 (bt255.1 * 256)))) + bt258.1)) a1, bt258.2.1, bt258.2.2)))))))
set_option maxHeartbeats 8000000 in
set_option maxRecDepth 100000 in
theorem spec_l1Below.calls (g : Nat) (s0_0 : List Int) (s0_1 : Int) (s0_2 : Int) (a1 : Int) (r1 : Int) (r2 : Int) (r3 : Int) (w0 w : World) (hI : IsS75 w0 w g s0_0 s0_1 s0_2) (hB : Below w0.heap.size w0 w) (h : spec_l1Below.f s0_0 s0_1 s0_2 a1 = some (r1, r2, r3)) :
    Calls Try.prog 64 #[.pointer (some ⟨g, 0, none⟩), .int .i64 a1] w fun e w' => e = .returned (.int .i64 r1) ∧ IsS75 w0 w' g s0_0 r2 r3 ∧ Below w0.heap.size w0 w' ∧ KeepBut w w' g none := by
  have HI0 := Aside0.mk hI
  have HK := Aside0.mk (KeepBut.refl w g none)
  have HL := Aside0.mk hB.size
  clear hI
  have HW0 := Aside0.mk hB.size
  have HB := Aside0.mk hB
  clear hB
  have H : (if a1 ≤ 0 then (some (0, s0_1, s0_2)) else (if a1 ≤ 256 then ((spec_l1Byte.f s0_0 s0_1 s0_2).bind fun bt249 => (if a1 = 0 then (none) else (some (Int.tmod bt249.1 a1, bt249.2.1, bt249.2.2)))) else ((spec_l1Byte.f s0_0 s0_1 s0_2).bind fun bt252 => ((spec_l1Byte.f s0_0 bt252.2.1 bt252.2.2).bind fun bt255 => ((spec_l1Byte.f s0_0 bt255.2.1 bt255.2.2).bind fun bt258 => (if a1 = 0 then (none) else (some (Int.tmod (wrap64 ((wrap64 ((wrap64 (bt252.1 * 65536)) + (wrap64 (bt255.1 * 256)))) + bt258.1)) a1, bt258.2.1, bt258.2.2)))))))) = some (r1, r2, r3) := h
  clear h
  by_cases c3 : a1 ≤ 0
  · rw [if_pos c3] at H
    have c3b0 : decide (a1 ≤ 0) = true := decide_eq_true c3
    clear c3
    simp only [Option.some.injEq, Prod.mk.injEq] at H
    obtain ⟨rfl, rfl, rfl⟩ := H
    go_enter Try.func64, Try.ntmps64
    go_wp2
    go_ret
    exact ⟨by first | rfl | (simp [errW_none, errW_some] <;> rfl) | (simp [*, errW_none, errW_some] <;> rfl), by repeat (first | (with_reducible first | exact HI0.out | apply IsS75.alloc | apply IsS75.drewN | apply IsS75.drew | apply IsS75.set_1 | apply IsS75.set_2) | exact HI0.out), by repeat (first | (with_reducible first | exact HB.out | apply below_alloc | apply pw_below_drewN | apply below_drew1 | refine below_set ?_ (IsS75.ge HI0.out)) | exact HB.out), by repeat (first | (with_reducible first | exact HK.out | apply KeepBut.set_ | apply keep_drewN | apply keep_drew | apply keep_alloc) | exact HK.out)⟩
  · rw [if_neg c3] at H
    have c3b0 : decide (a1 ≤ 0) = false := decide_eq_false c3
    clear c3
    by_cases c4 : a1 ≤ 256
    · rw [if_pos c4] at H
      have c4b0 : decide (a1 ≤ 256) = true := decide_eq_true c4
      clear c4
      replace H := Option.bind_eq_some_iff.mp H
      obtain ⟨⟨t249, t250, t251⟩, A50, H⟩ := H
      replace H : (if a1 = 0 then (none) else (some (Int.tmod t249 a1, t250, t251))) = some (r1, r2, r3) := H
      have A5 := Aside0.mk A50
      clear A50
      by_cases c6 : a1 = 0
      · rw [if_pos c6] at H
        exact absurd H (by simp)
      · rw [if_neg c6] at H
        have c6b0 : (a1 == 0) = false := beq_eq_false_iff_ne.mpr c6
        have c6b1 : (a1 != 0) = true := bne_iff_ne.mpr c6
        simp only [Option.some.injEq, Prod.mk.injEq] at H
        obtain ⟨rfl, rfl, rfl⟩ := H
        go_enter Try.func64, Try.ntmps64
        go_wp2_with (first | ((with_reducible refine gate_callee (f := 66) rfl ?_); refine goesL_ (some 13) rfl rfl Try.func66 (by kernel_rfl) rfl #[.pointer (some ⟨g, 0, none⟩)] rfl (by (try simp only [List.map_toArray, List.map_cons, List.map_nil]); first | done | rfl | (simp only [List.length_drop, List.length_take]; rfl)) ?_; (with_reducible refine (spec_l1Byte.calls g s0_0 s0_1 s0_2 t249 t250 t251 w0 _ ?side1 ?side2 A5.out).mono ?_); (case side1 => repeat (first | (with_reducible first | exact HI0.out | apply IsS75.alloc | apply IsS75.drewN | apply IsS75.drew | apply IsS75.set_1 | apply IsS75.set_2) | exact HI0.out)); (case side2 => repeat (first | (with_reducible first | exact HB.out | apply below_alloc | apply pw_below_drewN | apply below_drew1 | refine below_set ?_ (IsS75.ge HI0.out)) | exact HB.out)); rintro e w7 ⟨rfl, hi, hb, hk⟩; refine ⟨_, rfl, ?_⟩; have n0_ := Aside0.mk (KeepBut.trans (by repeat (first | (with_reducible first | exact HK.out | apply KeepBut.set_ | apply keep_drewN | apply keep_drew | apply keep_alloc) | exact HK.out)) hk (.inl rfl)); have n1_ := Aside0.mk (hb); have n2_ := Aside0.mk (hi); clear HK; clear HB; clear HI0; have HK := n0_; have HB := n1_; have HI0 := n2_; clear n0_ n1_ n2_; (try clear hb); (try clear hb2); (try clear hk); (try clear hi)))
        go_ret
        exact ⟨by first | rfl | (simp [errW_none, errW_some] <;> rfl) | (simp [*, errW_none, errW_some] <;> rfl), by repeat (first | (with_reducible first | exact HI0.out | apply IsS75.alloc | apply IsS75.drewN | apply IsS75.drew | apply IsS75.set_1 | apply IsS75.set_2) | exact HI0.out), by repeat (first | (with_reducible first | exact HB.out | apply below_alloc | apply pw_below_drewN | apply below_drew1 | refine below_set ?_ (IsS75.ge HI0.out)) | exact HB.out), by repeat (first | (with_reducible first | exact HK.out | apply KeepBut.set_ | apply keep_drewN | apply keep_drew | apply keep_alloc) | exact HK.out)⟩
    · rw [if_neg c4] at H
      have c4b0 : decide (a1 ≤ 256) = false := decide_eq_false c4
      clear c4
      replace H := Option.bind_eq_some_iff.mp H
      obtain ⟨⟨t252, t253, t254⟩, A80, H⟩ := H
      replace H : ((spec_l1Byte.f s0_0 t253 t254).bind fun bt255 => ((spec_l1Byte.f s0_0 bt255.2.1 bt255.2.2).bind fun bt258 => (if a1 = 0 then (none) else (some (Int.tmod (wrap64 ((wrap64 ((wrap64 (t252 * 65536)) + (wrap64 (bt255.1 * 256)))) + bt258.1)) a1, bt258.2.1, bt258.2.2))))) = some (r1, r2, r3) := H
      have A8 := Aside0.mk A80
      clear A80
      replace H := Option.bind_eq_some_iff.mp H
      obtain ⟨⟨t255, t256, t257⟩, A90, H⟩ := H
      replace H : ((spec_l1Byte.f s0_0 t256 t257).bind fun bt258 => (if a1 = 0 then (none) else (some (Int.tmod (wrap64 ((wrap64 ((wrap64 (t252 * 65536)) + (wrap64 (t255 * 256)))) + bt258.1)) a1, bt258.2.1, bt258.2.2)))) = some (r1, r2, r3) := H
      have A9 := Aside0.mk A90
      clear A90
      replace H := Option.bind_eq_some_iff.mp H
      obtain ⟨⟨t258, t259, t260⟩, A100, H⟩ := H
      replace H : (if a1 = 0 then (none) else (some (Int.tmod (wrap64 ((wrap64 ((wrap64 (t252 * 65536)) + (wrap64 (t255 * 256)))) + t258)) a1, t259, t260))) = some (r1, r2, r3) := H
      have A10 := Aside0.mk A100
      clear A100
      by_cases c11 : a1 = 0
      · rw [if_pos c11] at H
        exact absurd H (by simp)
      · rw [if_neg c11] at H
        have c11b0 : (a1 == 0) = false := beq_eq_false_iff_ne.mpr c11
        have c11b1 : (a1 != 0) = true := bne_iff_ne.mpr c11
        simp only [Option.some.injEq, Prod.mk.injEq] at H
        obtain ⟨rfl, rfl, rfl⟩ := H
        go_enter Try.func64, Try.ntmps64
        go_wp2_with (first | ((with_reducible refine gate_callee (f := 66) rfl ?_); refine goesL_ (some 17) rfl rfl Try.func66 (by kernel_rfl) rfl #[.pointer (some ⟨g, 0, none⟩)] rfl (by (try simp only [List.map_toArray, List.map_cons, List.map_nil]); first | done | rfl | (simp only [List.length_drop, List.length_take]; rfl)) ?_; (with_reducible refine (spec_l1Byte.calls g s0_0 s0_1 s0_2 t252 t253 t254 w0 _ ?side1 ?side2 A8.out).mono ?_); (case side1 => repeat (first | (with_reducible first | exact HI0.out | apply IsS75.alloc | apply IsS75.drewN | apply IsS75.drew | apply IsS75.set_1 | apply IsS75.set_2) | exact HI0.out)); (case side2 => repeat (first | (with_reducible first | exact HB.out | apply below_alloc | apply pw_below_drewN | apply below_drew1 | refine below_set ?_ (IsS75.ge HI0.out)) | exact HB.out)); rintro e w12 ⟨rfl, hi, hb, hk⟩; refine ⟨_, rfl, ?_⟩; have n0_ := Aside0.mk (KeepBut.trans (by repeat (first | (with_reducible first | exact HK.out | apply KeepBut.set_ | apply keep_drewN | apply keep_drew | apply keep_alloc) | exact HK.out)) hk (.inl rfl)); have n1_ := Aside0.mk (hb); have n2_ := Aside0.mk (hi); clear HK; clear HB; clear HI0; have HK := n0_; have HB := n1_; have HI0 := n2_; clear n0_ n1_ n2_; (try clear hb); (try clear hb2); (try clear hk); (try clear hi)) | ((with_reducible refine gate_callee (f := 66) rfl ?_); refine goesL_ (some 19) rfl rfl Try.func66 (by kernel_rfl) rfl #[.pointer (some ⟨g, 0, none⟩)] rfl (by (try simp only [List.map_toArray, List.map_cons, List.map_nil]); first | done | rfl | (simp only [List.length_drop, List.length_take]; rfl)) ?_; (with_reducible refine (spec_l1Byte.calls g s0_0 t253 t254 t255 t256 t257 w0 _ ?side1 ?side2 A9.out).mono ?_); (case side1 => repeat (first | (with_reducible first | exact HI0.out | apply IsS75.alloc | apply IsS75.drewN | apply IsS75.drew | apply IsS75.set_1 | apply IsS75.set_2) | exact HI0.out)); (case side2 => repeat (first | (with_reducible first | exact HB.out | apply below_alloc | apply pw_below_drewN | apply below_drew1 | refine below_set ?_ (IsS75.ge HI0.out)) | exact HB.out)); rintro e w13 ⟨rfl, hi, hb, hk⟩; refine ⟨_, rfl, ?_⟩; have n0_ := Aside0.mk (KeepBut.trans (by repeat (first | (with_reducible first | exact HK.out | apply KeepBut.set_ | apply keep_drewN | apply keep_drew | apply keep_alloc) | exact HK.out)) hk (.inl rfl)); have n1_ := Aside0.mk (hb); have n2_ := Aside0.mk (hi); clear HK; clear HB; clear HI0; have HK := n0_; have HB := n1_; have HI0 := n2_; clear n0_ n1_ n2_; (try clear hb); (try clear hb2); (try clear hk); (try clear hi)) | ((with_reducible refine gate_callee (f := 66) rfl ?_); refine goesL_ (some 21) rfl rfl Try.func66 (by kernel_rfl) rfl #[.pointer (some ⟨g, 0, none⟩)] rfl (by (try simp only [List.map_toArray, List.map_cons, List.map_nil]); first | done | rfl | (simp only [List.length_drop, List.length_take]; rfl)) ?_; (with_reducible refine (spec_l1Byte.calls g s0_0 t256 t257 t258 t259 t260 w0 _ ?side1 ?side2 A10.out).mono ?_); (case side1 => repeat (first | (with_reducible first | exact HI0.out | apply IsS75.alloc | apply IsS75.drewN | apply IsS75.drew | apply IsS75.set_1 | apply IsS75.set_2) | exact HI0.out)); (case side2 => repeat (first | (with_reducible first | exact HB.out | apply below_alloc | apply pw_below_drewN | apply below_drew1 | refine below_set ?_ (IsS75.ge HI0.out)) | exact HB.out)); rintro e w14 ⟨rfl, hi, hb, hk⟩; refine ⟨_, rfl, ?_⟩; have n0_ := Aside0.mk (KeepBut.trans (by repeat (first | (with_reducible first | exact HK.out | apply KeepBut.set_ | apply keep_drewN | apply keep_drew | apply keep_alloc) | exact HK.out)) hk (.inl rfl)); have n1_ := Aside0.mk (hb); have n2_ := Aside0.mk (hi); clear HK; clear HB; clear HI0; have HK := n0_; have HB := n1_; have HI0 := n2_; clear n0_ n1_ n2_; (try clear hb); (try clear hb2); (try clear hk); (try clear hi)))
        go_ret
        exact ⟨by first | rfl | (simp [errW_none, errW_some] <;> rfl) | (simp [*, errW_none, errW_some] <;> rfl), by repeat (first | (with_reducible first | exact HI0.out | apply IsS75.alloc | apply IsS75.drewN | apply IsS75.drew | apply IsS75.set_1 | apply IsS75.set_2) | exact HI0.out), by repeat (first | (with_reducible first | exact HB.out | apply below_alloc | apply pw_below_drewN | apply below_drew1 | refine below_set ?_ (IsS75.ge HI0.out)) | exact HB.out), by repeat (first | (with_reducible first | exact HK.out | apply KeepBut.set_ | apply keep_drewN | apply keep_drew | apply keep_alloc) | exact HK.out)⟩

end Go.Proofs.Ytbdegifmcppciaa.G

/- PDraw -/
/-
  Drawing: numbers, names. What is drawn is within bounds; how it is drawn doesn't matter.
-/
namespace Go.Proofs.Ytbdegifmcppciaa.G
open Go.RowKit Go.Proofs.YtbdegifmcppciaaW.PrintWords Go.Proofs.YtbdegifmcppciaaW.PrintLast Go.Proofs.YtbdegifmcppciaaW.PrintMore
set_option linter.unusedVariables false
set_option linter.unusedSimpArgs false
/-- From some number of rounds on there is an answer, and it is as Φ says. -/
def Tot {α : Type} (g : Nat → Option α) (Φ : α → Prop) : Prop := ∃ r, Ev g r ∧ Φ r
theorem Tot.bind {α β : Type} {g : Nat → Option α} {f : Nat → α → Option β} {Φ : α → Prop} {Ψ : β → Prop} (h : Tot g Φ) (k : ∀ a, Φ a → Tot (fun n => f n a) Ψ) : Tot (fun n => (g n).bind (f n)) Ψ := by
  obtain ⟨a, ha, hp⟩ := h
  obtain ⟨r, hr, hq⟩ := k a hp
  exact ⟨r, Ev.bind ha hr, hq⟩
theorem Tot.ite {α : Type} {c : Prop} [Decidable c] {g f : Nat → Option α} {Φ : α → Prop} (h1 : c → Tot g Φ) (h2 : ¬ c → Tot f Φ) : Tot (fun n => if c then g n else f n) Φ := by
  by_cases c
  · obtain ⟨r, hr, hq⟩ := h1 ‹_›
    exact ⟨r, ev_if_pos ‹_› hr, hq⟩
  · obtain ⟨r, hr, hq⟩ := h2 ‹_›
    exact ⟨r, ev_if_neg ‹_› hr, hq⟩
theorem Tot.pos {α : Type} {c : Prop} [Decidable c] {g f : Nat → Option α} {Φ : α → Prop} (h : c) (k : Tot g Φ) : Tot (fun n => if c then g n else f n) Φ := Tot.ite (fun _ => k) (fun hn => absurd h hn)
theorem Tot.neg {α : Type} {c : Prop} [Decidable c] {g f : Nat → Option α} {Φ : α → Prop} (h : ¬ c) (k : Tot f Φ) : Tot (fun n => if c then g n else f n) Φ := Tot.ite (fun hp => absurd hp h) (fun _ => k)
theorem Tot.some {α : Type} {a : α} {Φ : α → Prop} (h : Φ a) : Tot (fun _ => some a) Φ := ⟨a, Ev.now a, h⟩
theorem Tot.step {α : Type} {g f : Nat → Option α} {Φ : α → Prop} (h : ∀ k, g (k + 1) = f k) (t : Tot f Φ) : Tot g Φ := by
  obtain ⟨r, hr, hq⟩ := t
  exact ⟨r, Ev.step h hr, hq⟩
theorem Tot.mono {α : Type} {g : Nat → Option α} {Φ Ψ : α → Prop} (h : Tot g Φ) (k : ∀ a, Φ a → Ψ a) : Tot g Ψ := by
  obtain ⟨r, hr, hq⟩ := h
  exact ⟨r, hr, k r hq⟩

/-- Where a drawing stands in its code. -/
def Cur (xs : List Int) (p : Int) : Prop := 0 ≤ p ∧ p ≤ xs.length ∧ xs.length ≤ 1048576
theorem and255 (x : Int) : 0 ≤ Go.bits .and .i64 x 255 ∧ Go.bits .and .i64 x 255 ≤ 255 := by
  have h : ((BitVec.ofInt 64 x) &&& (BitVec.ofInt 64 255)).toNat ≤ 255 := by
    rw [BitVec.toNat_and]
    exact Nat.and_le_right
  have e : Go.bits .and .i64 x 255 = IntKind.i64.wrap (((BitVec.ofInt 64 x) &&& (BitVec.ofInt 64 255)).toNat : Int) := rfl
  rw [e, IntKind.wrap_i64]
  omega
theorem l1Byte_tot (xs : List Int) (p s : Int) (h : Cur xs p) : Tot (fun _ => spec_l1Byte.f xs p s) (fun r => (0 ≤ r.1 ∧ r.1 ≤ 255) ∧ Cur xs r.2.1) := by
  obtain ⟨h0, h1, h2⟩ := h
  unfold spec_l1Byte.f
  refine Tot.ite (fun c => Tot.pos h0 (Tot.some ⟨and255 _, ?_⟩)) (fun c => Tot.some ⟨and255 _, h0, h1, h2⟩)
  show Cur xs (wrap64 (p + 1))
  rw [w64 (by omega) (by omega)]
  exact ⟨by omega, by omega, h2⟩
theorem tmod_range {a n : Int} (h0 : 0 ≤ a) (hn : 0 < n) : 0 ≤ Int.tmod a n ∧ Int.tmod a n < n := ⟨Int.tmod_nonneg _ h0, Int.tmod_lt_of_pos _ hn⟩
def Upto (n x : Int) : Prop := 0 ≤ x ∧ (x = 0 ∨ x < n)
theorem l1Below_tot (xs : List Int) (p s n : Int) (h : Cur xs p) : Tot (fun _ => spec_l1Below.f xs p s n) (fun r => Upto n r.1 ∧ Cur xs r.2.1) := by
  unfold spec_l1Below.f
  refine Tot.ite (fun c => Tot.some ⟨⟨Int.le_refl _, .inl rfl⟩, h⟩) (fun c => Tot.ite (fun c2 => ?_) (fun c2 => ?_))
  · refine Tot.bind (l1Byte_tot xs p s h) (fun a ha => Tot.neg (by omega) (Tot.some ⟨?_, ha.2⟩))
    have := tmod_range ha.1.1 (by omega : 0 < n)
    exact ⟨this.1, .inr this.2⟩
  · refine Tot.bind (l1Byte_tot xs p s h) (fun a ha => Tot.bind (l1Byte_tot xs _ _ ha.2) (fun b hb => Tot.bind (l1Byte_tot xs _ _ hb.2) (fun c hc => Tot.neg (by omega) (Tot.some ⟨?_, hc.2⟩))))
    have := tmod_range (a := wrap64 ((wrap64 ((wrap64 (a.1 * 65536)) + (wrap64 (b.1 * 256)))) + c.1)) (by
      obtain ⟨⟨a1, a2⟩, _⟩ := ha; obtain ⟨⟨b1, b2⟩, _⟩ := hb; obtain ⟨⟨c1, c2⟩, _⟩ := hc
      rw [w64 (x := a.1 * 65536) (by omega) (by omega), w64 (x := b.1 * 256) (by omega) (by omega), w64 (x := a.1 * 65536 + b.1 * 256) (by omega) (by omega), w64 (by omega) (by omega)]
      omega) (by omega : 0 < n)
    exact ⟨this.1, .inr this.2⟩
theorem Upto.lt {n x : Int} (h : Upto n x) (hn : 0 < n) : 0 ≤ x ∧ x < n := ⟨h.1, by rcases h.2 with h2 | h2 <;> omega⟩
theorem l1New_l0 (xs : List Int) (hl : xs.length ≤ 1048576) : ∀ (d i : Nat) (s : Int), i + d = xs.length → Tot (fun k => spec_l1New.l0 k xs s i) (fun r => r.1 = xs ∧ Cur xs r.2.1)
  | 0, i, s, hd => by
    refine Tot.step (fun k => by rw [spec_l1New.l0]) (Tot.neg (by omega) (Tot.some ⟨rfl, (show Cur xs 0 from ⟨by omega, by omega, hl⟩)⟩))
  | d + 1, i, s, hd => by
    refine Tot.step (fun k => by rw [spec_l1New.l0]) (Tot.pos (by omega) (Tot.ite (fun c => Tot.pos (by omega) ?_) (fun c => Tot.some ⟨rfl, (show Cur xs 0 from ⟨by omega, by omega, hl⟩)⟩)))
    simp only [wsucc (by omega : i < xs.length) (by omega : xs.length ≤ 9223372036854775807)]
    exact l1New_l0 xs hl d (i + 1) _ (by omega)
theorem l1New_tot (xs : List Int) (hl : xs.length ≤ 1048576) : Tot (fun k => spec_l1New.f k xs) (fun r => r.1 = xs ∧ Cur xs r.2.1) := by
  unfold spec_l1New.f
  exact l1New_l0 xs hl xs.length 0 _ (by omega)
end Go.Proofs.Ytbdegifmcppciaa.G

/- Base -/
/-
  Data of the program as one tree type 'D', and what it means that cells of a world read as such data ('rdq'), with the list of blocks that the reading goes through.
  Plain lemmas: frames, single elements, growth.
-/
namespace Go.Proofs.Ytbdegifmcppciaa
open Go.RowKit

inductive D where
  | int (n : Int)
  | bool (b : Bool)
  | str (s : ByteArray)
  | agg (ds : List D)
  | sl (sz : Nat) (ds : List D)

/-! Growth, a step at a time. -/
theorem belowA {w W : World} (h : Below w.heap.size w W) (o : Obj) : Below w.heap.size w (W.alloc o) := h.alloc h.size o
theorem belowD {w W : World} (h : Below w.heap.size w W) : Below w.heap.size w W.drew := ⟨h.os, h.tape, h.output, h.size, h.block⟩
theorem belowN {w W : World} (h : Below w.heap.size w W) (n : Nat) : Below w.heap.size w (W.drewN n) := ⟨h.os, h.tape, h.output, h.size, h.block⟩
theorem belowS {w W : World} (h : Below w.heap.size w W) (b i : Nat) (hb : w.heap.size ≤ b) (v : Value) : Below w.heap.size w (W.setCell ⟨b, i, none⟩ v) := h.setCell hb v
theorem blk_below {w w1 : World} {g : Nat} {o : Obj} (h : w.heap[g]? = some o) (hb : Below w.heap.size w w1) : w1.heap[g]? = some o := (hb.block g (Array.getElem?_eq_some_iff.1 h).1).trans h
theorem blk_alloc {w : World} {g : Nat} {o : Obj} (h : w.heap[g]? = some o) (o' : Obj) : (w.alloc o').heap[g]? = some o := (Below.heap_alloc w o' g (Array.getElem?_eq_some_iff.1 h).1).trans h
/-- The blocks of a result: each once, all from 'base' on. -/
structure Fresh (base : Nat) (F : List Nat) : Prop where
  nodup : F.Nodup
  from_ : ∀ b, b ∈ F → base ≤ b
theorem Fresh.nil (base : Nat) : Fresh base [] := ⟨List.nodup_nil, by simp⟩
/-! A row that the call itself made: filled from the left. -/
section
variable {w w' : World} {base : Nat} {e : TypeId} {sz n cap g : Nat} {A : Option Addr} {p q cs : List Value} {ds : List D} {F : List Nat}
end

end Go.Proofs.Ytbdegifmcppciaa

/- Name -/
/-
  NameOk of the program and of the reference.
-/
namespace Go.Proofs.Ytbdegifmcppciaa
open Go.RowKit
set_option linter.unusedVariables false
set_option linter.unusedSimpArgs false

def inB (a b c : Int) : Bool := decide (b ≤ a) && decide (a ≤ c)
theorem inB_iff {a b c : Int} : inB a b c = true ↔ b ≤ a ∧ a ≤ c := by simp [inB]
theorem l1In_any (a b c : Int) (w : World) : Calls Try.prog 44 #[.int .i64 a, .int .i64 b, .int .i64 c] w fun e w' => e = .returned (.bool (inB a b c)) ∧ w = w' := by
  by_cases h : b ≤ a
  · have hd : decide (b ≤ a) = true := decide_eq_true h
    go_enter Try.func44, Try.ntmps44
    go_wp2
    go_ret
    exact ⟨by unfold inB; rw [hd]; rfl, rfl⟩
  · have hd : decide (b ≤ a) = false := decide_eq_false h
    go_enter Try.func44, Try.ntmps44
    go_wp2
    go_ret
    exact ⟨by unfold inB; rw [hd]; rfl, rfl⟩
theorem within_any (a b c : Int) (w : World) : Calls Try.prog 45 #[.int .i64 a, .int .i64 b, .int .i64 c] w fun e w' => e = .returned (.bool (inB a b c)) ∧ w = w' := by
  by_cases h : b ≤ a
  · have hd : decide (b ≤ a) = true := decide_eq_true h
    go_enter Try.func45, Try.ntmps45
    go_wp2
    go_ret
    exact ⟨by unfold inB; rw [hd]; rfl, rfl⟩
  · have hd : decide (b ≤ a) = false := decide_eq_false h
    go_enter Try.func45, Try.ntmps45
    go_wp2
    go_ret
    exact ⟨by unfold inB; rw [hd]; rfl, rfl⟩
end Go.Proofs.Ytbdegifmcppciaa

/- Amt -/
/-
  Amounts: three whole numbers by value.
-/
namespace Go.Proofs.Ytbdegifmcppciaa
open Go.RowKit
set_option linter.unusedVariables false
set_option linter.unusedSimpArgs false

structure Amt where
  a : Int
  b : Int
  c : Int
def Amt.v (x : Amt) : Value := .agg #[.int .i64 x.a, .int .i64 x.b, .int .i64 x.c]
def amtOk (x : Amt) : Bool := inB x.a 0 1000000000000000 && inB x.b 0 1000000000000000 && inB x.c 0 1000000000000000
theorem amtOk_iff {x : Amt} : amtOk x = true ↔ (0 ≤ x.a ∧ x.a ≤ 1000000000000000) ∧ (0 ≤ x.b ∧ x.b ≤ 1000000000000000) ∧ (0 ≤ x.c ∧ x.c ≤ 1000000000000000) := by
  simp [amtOk, inB, and_assoc]
theorem specAmountsOk_any (x : Amt) (w : World) : Calls Try.prog 17 #[x.v] w fun e w' => e = .returned (.bool (amtOk x)) ∧ w' = w.alloc (.cells #[.int .i64 x.a, .int .i64 x.b, .int .i64 x.c] 28) := by
  obtain ⟨a, b, c⟩ := x
  unfold Amt.v amtOk
  by_cases h1 : inB a 0 1000000000000000 = true
  · by_cases h2 : inB b 0 1000000000000000 = true
    · go_enter Try.func17, Try.ntmps17
      go_wp2_with (go_at_call 44; refine (l1In_any _ _ _ _).mono ?_; rintro e w' ⟨rfl, rfl⟩)
      go_ret
      exact ⟨by simp [h1, h2], rfl⟩
    · have h2' : inB b 0 1000000000000000 = false := by simpa using h2
      clear h2
      go_enter Try.func17, Try.ntmps17
      go_wp2_with (go_at_call 44; refine (l1In_any _ _ _ _).mono ?_; rintro e w' ⟨rfl, rfl⟩)
      go_ret
      exact ⟨by simp [h1, h2'], rfl⟩
  · have h1' : inB a 0 1000000000000000 = false := by simpa using h1
    clear h1
    go_enter Try.func17, Try.ntmps17
    go_wp2_with (go_at_call 44; refine (l1In_any _ _ _ _).mono ?_; rintro e w' ⟨rfl, rfl⟩)
    go_ret
    exact ⟨by simp [h1'], rfl⟩
theorem isAmount_any (a : Int) (w : World) : Calls Try.prog 47 #[.int .i64 a] w fun e w' => e = .returned (.bool (inB a 0 1000000000000000)) ∧ w = w' := by
  go_enter Try.func47, Try.ntmps47
  go_wp2_with (go_at_call 45; refine (within_any _ _ _ _).mono ?_; rintro e w' ⟨rfl, rfl⟩)
  go_ret
  exact ⟨rfl, rfl⟩
theorem implAmountsOk_any (x : Amt) (w : World) : Calls Try.prog 19 #[x.v] w fun e w' => e = .returned (.bool (amtOk x)) ∧ w' = w.alloc (.cells #[.int .i64 x.a, .int .i64 x.b, .int .i64 x.c] 28) := by
  obtain ⟨a, b, c⟩ := x
  unfold Amt.v amtOk
  by_cases h1 : inB a 0 1000000000000000 = true
  · by_cases h2 : inB b 0 1000000000000000 = true
    · go_enter Try.func19, Try.ntmps19
      go_wp2_with (go_at_call 47; refine (isAmount_any _ _).mono ?_; rintro e w' ⟨rfl, rfl⟩)
      go_ret
      exact ⟨by simp [h1, h2], rfl⟩
    · have h2' : inB b 0 1000000000000000 = false := by simpa using h2
      clear h2
      go_enter Try.func19, Try.ntmps19
      go_wp2_with (go_at_call 47; refine (isAmount_any _ _).mono ?_; rintro e w' ⟨rfl, rfl⟩)
      go_ret
      exact ⟨by simp [h1, h2'], rfl⟩
  · have h1' : inB a 0 1000000000000000 = false := by simpa using h1
    clear h1
    go_enter Try.func19, Try.ntmps19
    go_wp2_with (go_at_call 47; refine (isAmount_any _ _).mono ?_; rintro e w' ⟨rfl, rfl⟩)
    go_ret
    exact ⟨by simp [h1'], rfl⟩
def amtZero : Amt := ⟨0, 0, 0⟩
noncomputable def addV (x y : Amt) : Value := if amtOk x = true ∧ amtOk y = true ∧ amtOk ⟨x.a + y.a, x.b + y.b, x.c + y.c⟩ = true then .tuple #[Amt.v ⟨x.a + y.a, x.b + y.b, x.c + y.c⟩, .bool true] else .tuple #[amtZero.v, .bool false]
set_option maxHeartbeats 800000 in
theorem implAddAmounts_any (x y : Amt) (w : World) : Calls Try.prog 25 #[x.v, y.v] w fun e w' => e = .returned (addV x y) ∧ Below w.heap.size w w' := by
  obtain ⟨a, b, c⟩ := x
  obtain ⟨p, q, r⟩ := y
  by_cases hx : amtOk ⟨a, b, c⟩ = true
  · by_cases hy : amtOk ⟨p, q, r⟩ = true
    · obtain ⟨⟨a1, a2⟩, ⟨b1, b2⟩, c1, c2⟩ := amtOk_iff.1 hx
      obtain ⟨⟨p1, p2⟩, ⟨q1, q2⟩, r1, r2⟩ := amtOk_iff.1 hy
      dsimp only at a1 a2 b1 b2 c1 c2 p1 p2 q1 q2 r1 r2
      by_cases hs : amtOk ⟨a + p, b + q, c + r⟩ = true
      · have HV : Hid (addV ⟨a, b, c⟩ ⟨p, q, r⟩ = .tuple #[.agg #[.int .i64 (a + p), .int .i64 (b + q), .int .i64 (c + r)], .bool true]) := by unfold Hid addV; rw [if_pos ⟨hx, hy, hs⟩]; rfl
        unfold Amt.v
        go_enter Try.func25, Try.ntmps25
        go_wp2_with (go_at_call 19; refine (implAmountsOk_any ⟨_, _, _⟩ _).mono ?_; rintro e w' ⟨rfl, rfl⟩)
        refine wp_loop_rounds 4 ?_
        rw [rounds_succ]; go_wp2; go_region; go_wp2
        rw [rounds_succ]; go_wp2; go_region; go_wp2
        rw [rounds_succ]; go_wp2; go_region; go_wp2
        rw [rounds_succ]
        go_wp2_with (go_at_call 19; refine (implAmountsOk_any ⟨_, _, _⟩ _).mono ?_; rintro e w' ⟨rfl, rfl⟩)
        exact bodyPost_ret (v := .tuple #[.agg #[.int .i64 (a + p), .int .i64 (b + q), .int .i64 (c + r)], .bool true]) (by simp [results, Try.results25, go_sem]) rfl ⟨by rw [HV.out], by repeat (first | (with_reducible exact Below.refl _ _) | (with_reducible refine belowS ?_ _ _ (by omega) _) | (with_reducible refine belowA ?_ _) | (with_reducible refine belowN ?_ _) | (with_reducible refine belowD ?_))⟩
      · have hs' : amtOk ⟨a + p, b + q, c + r⟩ = false := by simpa using hs
        have HV : Hid (addV ⟨a, b, c⟩ ⟨p, q, r⟩ = .tuple #[.agg #[.int .i64 0, .int .i64 0, .int .i64 0], .bool false]) := by unfold Hid addV; rw [if_neg (fun h => hs h.2.2)]; rfl
        clear hs
        unfold Amt.v
        go_enter Try.func25, Try.ntmps25
        go_wp2_with (go_at_call 19; refine (implAmountsOk_any ⟨_, _, _⟩ _).mono ?_; rintro e w' ⟨rfl, rfl⟩)
        refine wp_loop_rounds 4 ?_
        rw [rounds_succ]; go_wp2; go_region; go_wp2
        rw [rounds_succ]; go_wp2; go_region; go_wp2
        rw [rounds_succ]; go_wp2; go_region; go_wp2
        rw [rounds_succ]
        go_wp2_with (go_at_call 19; refine (implAmountsOk_any ⟨_, _, _⟩ _).mono ?_; rintro e w' ⟨rfl, rfl⟩)
        exact bodyPost_ret (v := .tuple #[.agg #[.int .i64 0, .int .i64 0, .int .i64 0], .bool false]) (by simp [results, Try.results25, go_sem]) rfl ⟨by rw [HV.out], by repeat (first | (with_reducible exact Below.refl _ _) | (with_reducible refine belowS ?_ _ _ (by omega) _) | (with_reducible refine belowA ?_ _) | (with_reducible refine belowN ?_ _) | (with_reducible refine belowD ?_))⟩
    · have hy' : amtOk ⟨p, q, r⟩ = false := by simpa using hy
      have HV : Hid (addV ⟨a, b, c⟩ ⟨p, q, r⟩ = .tuple #[.agg #[.int .i64 0, .int .i64 0, .int .i64 0], .bool false]) := by unfold Hid addV; rw [if_neg (fun h => hy h.2.1)]; rfl
      clear hy
      unfold Amt.v
      go_enter Try.func25, Try.ntmps25
      go_wp2_with (go_at_call 19; refine (implAmountsOk_any ⟨_, _, _⟩ _).mono ?_; rintro e w' ⟨rfl, rfl⟩)
      exact bodyPost_ret (v := .tuple #[.agg #[.int .i64 0, .int .i64 0, .int .i64 0], .bool false]) (by simp [results, Try.results25, go_sem]) rfl ⟨by rw [HV.out], by repeat (first | (with_reducible exact Below.refl _ _) | (with_reducible refine belowS ?_ _ _ (by omega) _) | (with_reducible refine belowA ?_ _) | (with_reducible refine belowN ?_ _) | (with_reducible refine belowD ?_))⟩
  · have hx' : amtOk ⟨a, b, c⟩ = false := by simpa using hx
    have HV : Hid (addV ⟨a, b, c⟩ ⟨p, q, r⟩ = .tuple #[.agg #[.int .i64 0, .int .i64 0, .int .i64 0], .bool false]) := by unfold Hid addV; rw [if_neg (fun h => hx h.1)]; rfl
    clear hx
    unfold Amt.v
    go_enter Try.func25, Try.ntmps25
    go_wp2_with (go_at_call 19; refine (implAmountsOk_any ⟨_, _, _⟩ _).mono ?_; rintro e w' ⟨rfl, rfl⟩)
    exact bodyPost_ret (v := .tuple #[.agg #[.int .i64 0, .int .i64 0, .int .i64 0], .bool false]) (by simp [results, Try.results25, go_sem]) rfl ⟨by rw [HV.out], by repeat (first | (with_reducible exact Below.refl _ _) | (with_reducible refine belowS ?_ _ _ (by omega) _) | (with_reducible refine belowA ?_ _) | (with_reducible refine belowN ?_ _) | (with_reducible refine belowD ?_))⟩
end Go.Proofs.Ytbdegifmcppciaa

/- Amt2 -/
/-
  Amounts: Times and Fits.
-/
namespace Go.Proofs.Ytbdegifmcppciaa
open Go.RowKit
set_option linter.unusedVariables false
set_option linter.unusedSimpArgs false

noncomputable def timesV (x : Amt) (n : Int) : Value :=
  if amtOk x = true ∧ inB n 0 1000000 = true ∧ (0 < n → x.a ≤ 1000000000000000 / n ∧ x.b ≤ 1000000000000000 / n ∧ x.c ≤ 1000000000000000 / n) then .tuple #[Amt.v ⟨x.a * n, x.b * n, x.c * n⟩, .bool true] else .tuple #[amtZero.v, .bool false]
theorem mul_bound {a n : Int} (h0 : 0 ≤ a) (hn : 0 < n) (h : a ≤ 1000000000000000 / n) : 0 ≤ a * n ∧ a * n ≤ 1000000000000000 :=
  ⟨Int.mul_nonneg h0 (Int.le_of_lt hn), by have := Int.mul_le_mul_of_nonneg_right h (Int.le_of_lt hn); have h2 := Int.ediv_mul_le 1000000000000000 (b := n) (by omega); omega⟩
def fitStep (n e r : Int) : Int := if 0 < e then (if r / e < n then r / e else n) else n
def fitsOf (x y : Amt) : Int := if amtOk x = true ∧ amtOk y = true then fitStep (fitStep (fitStep 1000000 x.a y.a) x.b y.b) x.c y.c else 0
theorem fitStep_bound {n e r : Int} (h0 : 0 ≤ n) (h1 : n ≤ 1000000) (he : 0 ≤ e) (hr : 0 ≤ r) : 0 ≤ fitStep n e r ∧ fitStep n e r ≤ 1000000 := by
  unfold fitStep
  split
  · split
    · exact ⟨Int.ediv_nonneg hr he, by omega⟩
    · exact ⟨h0, h1⟩
  · exact ⟨h0, h1⟩
theorem quo_bound {e r : Int} (he : 0 < e) (hr : 0 ≤ r) (h1 : r ≤ 1000000000000000) : 0 ≤ r / e ∧ r / e ≤ 1000000000000000 :=
  ⟨Int.ediv_nonneg hr (Int.le_of_lt he), Int.le_trans (Int.ediv_le_self e hr) h1⟩
set_option maxHeartbeats 800000 in
theorem implTimes_any (x : Amt) (n : Int) (w : World) : Calls Try.prog 28 #[x.v, .int .i64 n] w fun e w' => e = .returned (timesV x n) ∧ Below w.heap.size w w' := by
  obtain ⟨a, b, c⟩ := x
  have ix0 : ∀ w, (Instr.index 24 (.agg #[.int .i64 a, .int .i64 b, .int .i64 c]) (.int .i64 0)).run Try.prog w = .ok (.int .i64 a) w := fun _ => by kernel_rfl
  have ix1 : ∀ w, (Instr.index 24 (.agg #[.int .i64 a, .int .i64 b, .int .i64 c]) (.int .i64 1)).run Try.prog w = .ok (.int .i64 b) w := fun _ => by kernel_rfl
  have ix2 : ∀ w, (Instr.index 24 (.agg #[.int .i64 a, .int .i64 b, .int .i64 c]) (.int .i64 2)).run Try.prog w = .ok (.int .i64 c) w := fun _ => by kernel_rfl
  by_cases hx : amtOk ⟨a, b, c⟩ = true
  · by_cases hn : inB n 0 1000000 = true
    · obtain ⟨⟨a1, a2⟩, ⟨b1, b2⟩, c1, c2⟩ := amtOk_iff.1 hx
      dsimp only at a1 a2 b1 b2 c1 c2
      obtain ⟨n1, n2⟩ := inB_iff.1 hn
      by_cases h0 : 0 < n
      · by_cases ha : a ≤ 1000000000000000 / n
        · obtain ⟨am1, am2⟩ := mul_bound a1 h0 ha
          by_cases hb : b ≤ 1000000000000000 / n
          · obtain ⟨bm1, bm2⟩ := mul_bound b1 h0 hb
            by_cases hc : c ≤ 1000000000000000 / n
            · obtain ⟨cm1, cm2⟩ := mul_bound c1 h0 hc
              have HV : Hid (timesV ⟨a, b, c⟩ n = .tuple #[.agg #[.int .i64 (a * n), .int .i64 (b * n), .int .i64 (c * n)], .bool true]) := by unfold Hid timesV; rw [if_pos ⟨hx, hn, fun _ => ⟨ha, hb, hc⟩⟩]; rfl
              unfold Amt.v
              go_enter Try.func28, Try.ntmps28
              go_wp2_with (first | (go_at_call 19; refine (implAmountsOk_any ⟨_, _, _⟩ _).mono ?_; rintro e w' ⟨rfl, rfl⟩) | (go_at_call 45; refine (within_any _ _ _ _).mono ?_; rintro e w' ⟨rfl, rfl⟩))
              refine wp_loop_rounds 4 ?_
              rw [rounds_succ]; go_wp2
              rw [rounds_succ]; go_wp2
              rw [rounds_succ]; go_wp2
              rw [rounds_succ]; go_wp2
              exact bodyPost_ret (v := .tuple #[.agg #[.int .i64 (a * n), .int .i64 (b * n), .int .i64 (c * n)], .bool true]) (by simp [results, Try.results28, go_sem]) rfl ⟨by rw [HV.out], by repeat (first | (with_reducible exact Below.refl _ _) | (with_reducible refine belowS ?_ _ _ (by omega) _) | (with_reducible refine belowA ?_ _) | (with_reducible refine belowN ?_ _) | (with_reducible refine belowD ?_))⟩
            · have hneg : 1000000000000000 / n < c := by omega
              have HV : Hid (timesV ⟨a, b, c⟩ n = .tuple #[.agg #[.int .i64 0, .int .i64 0, .int .i64 0], .bool false]) := by unfold Hid timesV; rw [if_neg (fun h => absurd (h.2.2 h0).2.2 (by simpa using hneg))]; rfl
              clear hc
              unfold Amt.v
              go_enter Try.func28, Try.ntmps28
              go_wp2_with (first | (go_at_call 19; refine (implAmountsOk_any ⟨_, _, _⟩ _).mono ?_; rintro e w' ⟨rfl, rfl⟩) | (go_at_call 45; refine (within_any _ _ _ _).mono ?_; rintro e w' ⟨rfl, rfl⟩))
              refine wp_loop_rounds 4 ?_
              rw [rounds_succ]; go_wp2
              rw [rounds_succ]; go_wp2
              rw [rounds_succ]; go_wp2
              exact bodyPost_ret (v := .tuple #[.agg #[.int .i64 0, .int .i64 0, .int .i64 0], .bool false]) (by simp [results, Try.results28, go_sem]) rfl ⟨by rw [HV.out], by repeat (first | (with_reducible exact Below.refl _ _) | (with_reducible refine belowS ?_ _ _ (by omega) _) | (with_reducible refine belowA ?_ _) | (with_reducible refine belowN ?_ _) | (with_reducible refine belowD ?_))⟩
          · have hneg : 1000000000000000 / n < b := by omega
            have HV : Hid (timesV ⟨a, b, c⟩ n = .tuple #[.agg #[.int .i64 0, .int .i64 0, .int .i64 0], .bool false]) := by unfold Hid timesV; rw [if_neg (fun h => absurd (h.2.2 h0).2.1 (by simpa using hneg))]; rfl
            clear hb
            unfold Amt.v
            go_enter Try.func28, Try.ntmps28
            go_wp2_with (first | (go_at_call 19; refine (implAmountsOk_any ⟨_, _, _⟩ _).mono ?_; rintro e w' ⟨rfl, rfl⟩) | (go_at_call 45; refine (within_any _ _ _ _).mono ?_; rintro e w' ⟨rfl, rfl⟩))
            refine wp_loop_rounds 4 ?_
            rw [rounds_succ]; go_wp2
            rw [rounds_succ]; go_wp2
            exact bodyPost_ret (v := .tuple #[.agg #[.int .i64 0, .int .i64 0, .int .i64 0], .bool false]) (by simp [results, Try.results28, go_sem]) rfl ⟨by rw [HV.out], by repeat (first | (with_reducible exact Below.refl _ _) | (with_reducible refine belowS ?_ _ _ (by omega) _) | (with_reducible refine belowA ?_ _) | (with_reducible refine belowN ?_ _) | (with_reducible refine belowD ?_))⟩
        · have hneg : 1000000000000000 / n < a := by omega
          have HV : Hid (timesV ⟨a, b, c⟩ n = .tuple #[.agg #[.int .i64 0, .int .i64 0, .int .i64 0], .bool false]) := by unfold Hid timesV; rw [if_neg (fun h => absurd (h.2.2 h0).1 (by simpa using hneg))]; rfl
          clear ha
          unfold Amt.v
          go_enter Try.func28, Try.ntmps28
          go_wp2_with (first | (go_at_call 19; refine (implAmountsOk_any ⟨_, _, _⟩ _).mono ?_; rintro e w' ⟨rfl, rfl⟩) | (go_at_call 45; refine (within_any _ _ _ _).mono ?_; rintro e w' ⟨rfl, rfl⟩))
          refine wp_loop_rounds 4 ?_
          rw [rounds_succ]; go_wp2
          exact bodyPost_ret (v := .tuple #[.agg #[.int .i64 0, .int .i64 0, .int .i64 0], .bool false]) (by simp [results, Try.results28, go_sem]) rfl ⟨by rw [HV.out], by repeat (first | (with_reducible exact Below.refl _ _) | (with_reducible refine belowS ?_ _ _ (by omega) _) | (with_reducible refine belowA ?_ _) | (with_reducible refine belowN ?_ _) | (with_reducible refine belowD ?_))⟩
      · obtain rfl : n = 0 := by omega
        have HV : Hid (timesV ⟨a, b, c⟩ 0 = .tuple #[.agg #[.int .i64 0, .int .i64 0, .int .i64 0], .bool true]) := by unfold Hid timesV; rw [if_pos ⟨hx, hn, fun h => absurd h (by omega)⟩]; simp [Amt.v]
        clear h0
        unfold Amt.v
        go_enter Try.func28, Try.ntmps28
        go_wp2_with (first | (go_at_call 19; refine (implAmountsOk_any ⟨_, _, _⟩ _).mono ?_; rintro e w' ⟨rfl, rfl⟩) | (go_at_call 45; refine (within_any _ _ _ _).mono ?_; rintro e w' ⟨rfl, rfl⟩))
        refine wp_loop_rounds 4 ?_
        rw [rounds_succ]; go_wp2
        rw [rounds_succ]; go_wp2
        rw [rounds_succ]; go_wp2
        rw [rounds_succ]; go_wp2
        exact bodyPost_ret (v := .tuple #[.agg #[.int .i64 0, .int .i64 0, .int .i64 0], .bool true]) (by simp [results, Try.results28, go_sem]) rfl ⟨by rw [HV.out], by repeat (first | (with_reducible exact Below.refl _ _) | (with_reducible refine belowS ?_ _ _ (by omega) _) | (with_reducible refine belowA ?_ _) | (with_reducible refine belowN ?_ _) | (with_reducible refine belowD ?_))⟩
    · have hn' : inB n 0 1000000 = false := by simpa using hn
      have HV : Hid (timesV ⟨a, b, c⟩ n = .tuple #[.agg #[.int .i64 0, .int .i64 0, .int .i64 0], .bool false]) := by unfold Hid timesV; rw [if_neg (fun h => hn h.2.1)]; rfl
      clear hn
      unfold Amt.v
      go_enter Try.func28, Try.ntmps28
      go_wp2_with (first | (go_at_call 19; refine (implAmountsOk_any ⟨_, _, _⟩ _).mono ?_; rintro e w' ⟨rfl, rfl⟩) | (go_at_call 45; refine (within_any _ _ _ _).mono ?_; rintro e w' ⟨rfl, rfl⟩))
      exact bodyPost_ret (v := .tuple #[.agg #[.int .i64 0, .int .i64 0, .int .i64 0], .bool false]) (by simp [results, Try.results28, go_sem]) rfl ⟨by rw [HV.out], by repeat (first | (with_reducible exact Below.refl _ _) | (with_reducible refine belowS ?_ _ _ (by omega) _) | (with_reducible refine belowA ?_ _) | (with_reducible refine belowN ?_ _) | (with_reducible refine belowD ?_))⟩
  · have hx' : amtOk ⟨a, b, c⟩ = false := by simpa using hx
    have HV : Hid (timesV ⟨a, b, c⟩ n = .tuple #[.agg #[.int .i64 0, .int .i64 0, .int .i64 0], .bool false]) := by unfold Hid timesV; rw [if_neg (fun h => hx h.1)]; rfl
    clear hx
    unfold Amt.v
    go_enter Try.func28, Try.ntmps28
    go_wp2_with (first | (go_at_call 19; refine (implAmountsOk_any ⟨_, _, _⟩ _).mono ?_; rintro e w' ⟨rfl, rfl⟩) | (go_at_call 45; refine (within_any _ _ _ _).mono ?_; rintro e w' ⟨rfl, rfl⟩))
    exact bodyPost_ret (v := .tuple #[.agg #[.int .i64 0, .int .i64 0, .int .i64 0], .bool false]) (by simp [results, Try.results28, go_sem]) rfl ⟨by rw [HV.out], by repeat (first | (with_reducible exact Below.refl _ _) | (with_reducible refine belowS ?_ _ _ (by omega) _) | (with_reducible refine belowA ?_ _) | (with_reducible refine belowN ?_ _) | (with_reducible refine belowD ?_))⟩
end Go.Proofs.Ytbdegifmcppciaa

/- Amt3 -/
/-
  Amounts: Fits.
-/
namespace Go.Proofs.Ytbdegifmcppciaa
open Go.RowKit
set_option linter.unusedVariables false
set_option linter.unusedSimpArgs false

def fitsUp (x y : Amt) : Nat → Int
  | 0 => 1000000
  | 1 => fitStep 1000000 x.a y.a
  | 2 => fitStep (fitStep 1000000 x.a y.a) x.b y.b
  | _ => fitStep (fitStep (fitStep 1000000 x.a y.a) x.b y.b) x.c y.c
def Amt.at (x : Amt) : Nat → Int
  | 0 => x.a
  | 1 => x.b
  | _ => x.c
theorem fitsUp_succ (x y : Amt) (k : Nat) (hk : k < 3) : fitsUp x y (k + 1) = fitStep (fitsUp x y k) (x.at k) (y.at k) := by
  match k, hk with
  | 0, _ => rfl
  | 1, _ => rfl
  | 2, _ => rfl
def Amt.cs (x : Amt) : Array Value := #[.int .i64 x.a, .int .i64 x.b, .int .i64 x.c]
theorem amt_cell {w : World} {g : Nat} {x : Amt} {t : TypeId} (h : w.heap[g]? = some (.cells x.cs t (0, 0))) (k : Nat) (hk : k < 3) : w.cell? ⟨g, k, none⟩ = some (.int .i64 (x.at k)) := by
  rw [cell_of_row w g k x.cs t (0, 0) h]
  match k, hk with
  | 0, _ => rfl
  | 1, _ => rfl
  | 2, _ => rfl
theorem amt_two {W : World} {c d e f : Array Value} {t : TypeId} : ((((W.alloc (.cells c t)).alloc (.cells d t)).alloc (.cells e t)).alloc (.cells f t)).heap[W.heap.size]? = some (.cells c t (0, 0)) ∧ ((((W.alloc (.cells c t)).alloc (.cells d t)).alloc (.cells e t)).alloc (.cells f t)).heap[W.heap.size + 1]? = some (.cells d t (0, 0)) := by
  constructor
  · rw [Below.heap_alloc _ _ _ (by simp; omega), Below.heap_alloc _ _ _ (by simp; omega), Below.heap_alloc _ _ _ (by simp), heap_alloc_new]
  · rw [Below.heap_alloc _ _ _ (by simp), Below.heap_alloc _ _ _ (by simp)]
    have := heap_alloc_new (W.alloc (.cells c t)) (.cells d t)
    simpa using this
set_option maxHeartbeats 1600000 in
theorem implFits_any (x y : Amt) (w : World) : Calls Try.prog 21 #[x.v, y.v] w fun e w' => e = .returned (.int .i64 (fitsOf x y)) ∧ Below w.heap.size w w' := by
  obtain ⟨a, b, c⟩ := x
  obtain ⟨p, q, r⟩ := y
  have ix0 : ∀ w, (Instr.index 24 (.agg #[.int .i64 a, .int .i64 b, .int .i64 c]) (.int .i64 0)).run Try.prog w = .ok (.int .i64 a) w := fun _ => by kernel_rfl
  have ix1 : ∀ w, (Instr.index 24 (.agg #[.int .i64 a, .int .i64 b, .int .i64 c]) (.int .i64 1)).run Try.prog w = .ok (.int .i64 b) w := fun _ => by kernel_rfl
  have ix2 : ∀ w, (Instr.index 24 (.agg #[.int .i64 a, .int .i64 b, .int .i64 c]) (.int .i64 2)).run Try.prog w = .ok (.int .i64 c) w := fun _ => by kernel_rfl
  by_cases hx : amtOk ⟨a, b, c⟩ = true
  · by_cases hy : amtOk ⟨p, q, r⟩ = true
    · obtain ⟨⟨a1, a2⟩, ⟨b1, b2⟩, c1, c2⟩ := amtOk_iff.1 hx
      obtain ⟨⟨p1, p2⟩, ⟨q1, q2⟩, r1, r2⟩ := amtOk_iff.1 hy
      dsimp only at a1 a2 b1 b2 c1 c2 p1 p2 q1 q2 r1 r2
      have HV : Hid (fitsOf ⟨a, b, c⟩ ⟨p, q, r⟩ = fitsUp ⟨a, b, c⟩ ⟨p, q, r⟩ 3) := by unfold Hid fitsOf; rw [if_pos ⟨hx, hy⟩]; rfl
      have f0 : fitsUp ⟨a, b, c⟩ ⟨p, q, r⟩ 0 = 1000000 := rfl
      have F0 := Lib.hid f0
      clear f0
      unfold Amt.v
      go_enter Try.func21, Try.ntmps21
      go_wp2_with (go_at_call 19; refine (implAmountsOk_any ⟨_, _, _⟩ _).mono ?_; rintro e w' ⟨rfl, rfl⟩)
      go_loopw [5, 6, 7, 18] (fun nn _ _ i wr => ∃ k : Nat, k ≤ 3 ∧ i = .int .i64 k ∧ nn = .int .i64 (fitsUp ⟨a, b, c⟩ ⟨p, q, r⟩ k) ∧ Hid (wr.heap[w.heap.size]? = some (.cells (Amt.cs ⟨a, b, c⟩) 28 (0, 0)) ∧ wr.heap[w.heap.size + 1]? = some (.cells (Amt.cs ⟨p, q, r⟩) 28 (0, 0))) ∧ Below w.heap.size w wr) (fun _ _ _ i _ => 3 - (intOf i).toNat)
      case atStart => exact ⟨0, by omega, rfl, rfl, amt_two, by repeat (first | (with_reducible exact Below.refl _ _) | (with_reducible refine belowS ?_ _ _ (by omega) _) | (with_reducible refine belowA ?_ _) | (with_reducible refine belowN ?_ _) | (with_reducible refine belowD ?_))⟩
      case round =>
        obtain ⟨k, hk, rfl, rfl, HW, hb⟩ := hrel
        have HB := Lib.hid hb
        clear hb
        by_cases hlt : k < 3
        · match k, hlt with
          | 0, hlt =>
            have HS := Lib.hid (fitsUp_succ ⟨a, b, c⟩ ⟨p, q, r⟩ 0 (by omega))
            have cx : wr.cell? ⟨w.heap.size, 0, none⟩ = some (.int .i64 a) := amt_cell HW.out.1 0 (by omega)
            have cy : wr.cell? ⟨w.heap.size + 1, 0, none⟩ = some (.int .i64 p) := amt_cell HW.out.2 0 (by omega)
            by_cases he : 0 < a
            · obtain ⟨hq0, hq1⟩ := quo_bound (e := a) (r := p) he (by omega) (by omega)
              have hlow : 1 ≤ a := he
              by_cases hl : p / a < fitsUp ⟨a, b, c⟩ ⟨p, q, r⟩ 0
              · have HR : Hid (fitStep (fitsUp ⟨a, b, c⟩ ⟨p, q, r⟩ 0) a p = p / a) := by unfold Hid fitStep; rw [if_pos he, if_pos hl]
                go_wp2
                go_roundw
                case rel => exact ⟨0 + 1, by omega, by go_num, by rw [HS.out]; first | exact congrArg (Value.int .i64) HR.out.symm | exact congrArg (Value.int .i64) ((if_neg (by simpa using hld)).trans HR.out.symm), HW, by repeat (first | (with_reducible exact Below.refl _ _) | (with_reducible exact HB.out) | (with_reducible refine belowS ?_ _ _ (by omega) _) | (with_reducible refine belowA ?_ _) | (with_reducible refine belowN ?_ _) | (with_reducible refine belowD ?_))⟩
                case measure => simp [intOf]
              · have HR : Hid (fitStep (fitsUp ⟨a, b, c⟩ ⟨p, q, r⟩ 0) a p = fitsUp ⟨a, b, c⟩ ⟨p, q, r⟩ 0) := by unfold Hid fitStep; rw [if_pos he, if_neg hl]
                have hld : decide (p / a < fitsUp ⟨a, b, c⟩ ⟨p, q, r⟩ 0) = false := by simpa using hl
                clear hl
                go_wp2
                go_roundw
                case rel => exact ⟨0 + 1, by omega, by go_num, by rw [HS.out]; first | exact congrArg (Value.int .i64) HR.out.symm | exact congrArg (Value.int .i64) ((if_neg (by simpa using hld)).trans HR.out.symm), HW, by repeat (first | (with_reducible exact Below.refl _ _) | (with_reducible exact HB.out) | (with_reducible refine belowS ?_ _ _ (by omega) _) | (with_reducible refine belowA ?_ _) | (with_reducible refine belowN ?_ _) | (with_reducible refine belowD ?_))⟩
                case measure => simp [intOf]
            · have HR : Hid (fitStep (fitsUp ⟨a, b, c⟩ ⟨p, q, r⟩ 0) a p = fitsUp ⟨a, b, c⟩ ⟨p, q, r⟩ 0) := by unfold Hid fitStep; rw [if_neg he]
              have hed : decide (0 < a) = false := by simpa using he
              clear he
              go_wp2
              go_roundw
              case rel => exact ⟨0 + 1, by omega, by go_num, by rw [HS.out]; first | exact congrArg (Value.int .i64) HR.out.symm | exact congrArg (Value.int .i64) ((if_neg (by simpa using hld)).trans HR.out.symm), HW, by repeat (first | (with_reducible exact Below.refl _ _) | (with_reducible exact HB.out) | (with_reducible refine belowS ?_ _ _ (by omega) _) | (with_reducible refine belowA ?_ _) | (with_reducible refine belowN ?_ _) | (with_reducible refine belowD ?_))⟩
              case measure => simp [intOf]
          | 1, hlt =>
            have HS := Lib.hid (fitsUp_succ ⟨a, b, c⟩ ⟨p, q, r⟩ 1 (by omega))
            have cx : wr.cell? ⟨w.heap.size, 1, none⟩ = some (.int .i64 b) := amt_cell HW.out.1 1 (by omega)
            have cy : wr.cell? ⟨w.heap.size + 1, 1, none⟩ = some (.int .i64 q) := amt_cell HW.out.2 1 (by omega)
            by_cases he : 0 < b
            · obtain ⟨hq0, hq1⟩ := quo_bound (e := b) (r := q) he (by omega) (by omega)
              have hlow : 1 ≤ b := he
              by_cases hl : q / b < fitsUp ⟨a, b, c⟩ ⟨p, q, r⟩ 1
              · have HR : Hid (fitStep (fitsUp ⟨a, b, c⟩ ⟨p, q, r⟩ 1) b q = q / b) := by unfold Hid fitStep; rw [if_pos he, if_pos hl]
                go_wp2
                go_roundw
                case rel => exact ⟨1 + 1, by omega, by go_num, by rw [HS.out]; first | exact congrArg (Value.int .i64) HR.out.symm | exact congrArg (Value.int .i64) ((if_neg (by simpa using hld)).trans HR.out.symm), HW, by repeat (first | (with_reducible exact Below.refl _ _) | (with_reducible exact HB.out) | (with_reducible refine belowS ?_ _ _ (by omega) _) | (with_reducible refine belowA ?_ _) | (with_reducible refine belowN ?_ _) | (with_reducible refine belowD ?_))⟩
                case measure => simp [intOf]
              · have HR : Hid (fitStep (fitsUp ⟨a, b, c⟩ ⟨p, q, r⟩ 1) b q = fitsUp ⟨a, b, c⟩ ⟨p, q, r⟩ 1) := by unfold Hid fitStep; rw [if_pos he, if_neg hl]
                have hld : decide (q / b < fitsUp ⟨a, b, c⟩ ⟨p, q, r⟩ 1) = false := by simpa using hl
                clear hl
                go_wp2
                go_roundw
                case rel => exact ⟨1 + 1, by omega, by go_num, by rw [HS.out]; first | exact congrArg (Value.int .i64) HR.out.symm | exact congrArg (Value.int .i64) ((if_neg (by simpa using hld)).trans HR.out.symm), HW, by repeat (first | (with_reducible exact Below.refl _ _) | (with_reducible exact HB.out) | (with_reducible refine belowS ?_ _ _ (by omega) _) | (with_reducible refine belowA ?_ _) | (with_reducible refine belowN ?_ _) | (with_reducible refine belowD ?_))⟩
                case measure => simp [intOf]
            · have HR : Hid (fitStep (fitsUp ⟨a, b, c⟩ ⟨p, q, r⟩ 1) b q = fitsUp ⟨a, b, c⟩ ⟨p, q, r⟩ 1) := by unfold Hid fitStep; rw [if_neg he]
              have hed : decide (0 < b) = false := by simpa using he
              clear he
              go_wp2
              go_roundw
              case rel => exact ⟨1 + 1, by omega, by go_num, by rw [HS.out]; first | exact congrArg (Value.int .i64) HR.out.symm | exact congrArg (Value.int .i64) ((if_neg (by simpa using hld)).trans HR.out.symm), HW, by repeat (first | (with_reducible exact Below.refl _ _) | (with_reducible exact HB.out) | (with_reducible refine belowS ?_ _ _ (by omega) _) | (with_reducible refine belowA ?_ _) | (with_reducible refine belowN ?_ _) | (with_reducible refine belowD ?_))⟩
              case measure => simp [intOf]
          | 2, hlt =>
            have HS := Lib.hid (fitsUp_succ ⟨a, b, c⟩ ⟨p, q, r⟩ 2 (by omega))
            have cx : wr.cell? ⟨w.heap.size, 2, none⟩ = some (.int .i64 c) := amt_cell HW.out.1 2 (by omega)
            have cy : wr.cell? ⟨w.heap.size + 1, 2, none⟩ = some (.int .i64 r) := amt_cell HW.out.2 2 (by omega)
            by_cases he : 0 < c
            · obtain ⟨hq0, hq1⟩ := quo_bound (e := c) (r := r) he (by omega) (by omega)
              have hlow : 1 ≤ c := he
              by_cases hl : r / c < fitsUp ⟨a, b, c⟩ ⟨p, q, r⟩ 2
              · have HR : Hid (fitStep (fitsUp ⟨a, b, c⟩ ⟨p, q, r⟩ 2) c r = r / c) := by unfold Hid fitStep; rw [if_pos he, if_pos hl]
                go_wp2
                go_roundw
                case rel => exact ⟨2 + 1, by omega, by go_num, by rw [HS.out]; first | exact congrArg (Value.int .i64) HR.out.symm | exact congrArg (Value.int .i64) ((if_neg (by simpa using hld)).trans HR.out.symm), HW, by repeat (first | (with_reducible exact Below.refl _ _) | (with_reducible exact HB.out) | (with_reducible refine belowS ?_ _ _ (by omega) _) | (with_reducible refine belowA ?_ _) | (with_reducible refine belowN ?_ _) | (with_reducible refine belowD ?_))⟩
                case measure => simp [intOf]
              · have HR : Hid (fitStep (fitsUp ⟨a, b, c⟩ ⟨p, q, r⟩ 2) c r = fitsUp ⟨a, b, c⟩ ⟨p, q, r⟩ 2) := by unfold Hid fitStep; rw [if_pos he, if_neg hl]
                have hld : decide (r / c < fitsUp ⟨a, b, c⟩ ⟨p, q, r⟩ 2) = false := by simpa using hl
                clear hl
                go_wp2
                go_roundw
                case rel => exact ⟨2 + 1, by omega, by go_num, by rw [HS.out]; first | exact congrArg (Value.int .i64) HR.out.symm | exact congrArg (Value.int .i64) ((if_neg (by simpa using hld)).trans HR.out.symm), HW, by repeat (first | (with_reducible exact Below.refl _ _) | (with_reducible exact HB.out) | (with_reducible refine belowS ?_ _ _ (by omega) _) | (with_reducible refine belowA ?_ _) | (with_reducible refine belowN ?_ _) | (with_reducible refine belowD ?_))⟩
                case measure => simp [intOf]
            · have HR : Hid (fitStep (fitsUp ⟨a, b, c⟩ ⟨p, q, r⟩ 2) c r = fitsUp ⟨a, b, c⟩ ⟨p, q, r⟩ 2) := by unfold Hid fitStep; rw [if_neg he]
              have hed : decide (0 < c) = false := by simpa using he
              clear he
              go_wp2
              go_roundw
              case rel => exact ⟨2 + 1, by omega, by go_num, by rw [HS.out]; first | exact congrArg (Value.int .i64) HR.out.symm | exact congrArg (Value.int .i64) ((if_neg (by simpa using hld)).trans HR.out.symm), HW, by repeat (first | (with_reducible exact Below.refl _ _) | (with_reducible exact HB.out) | (with_reducible refine belowS ?_ _ _ (by omega) _) | (with_reducible refine belowA ?_ _) | (with_reducible refine belowN ?_ _) | (with_reducible refine belowD ?_))⟩
              case measure => simp [intOf]
        · obtain rfl : k = 3 := by omega
          go_wp2
          go_ret
          exact ⟨by rw [HV.out]; rfl, HB.out⟩
    · have hy' : amtOk ⟨p, q, r⟩ = false := by simpa using hy
      have HV : Hid (fitsOf ⟨a, b, c⟩ ⟨p, q, r⟩ = 0) := by unfold Hid fitsOf; rw [if_neg (fun h => hy h.2)]
      clear hy
      unfold Amt.v
      go_enter Try.func21, Try.ntmps21
      go_wp2_with (go_at_call 19; refine (implAmountsOk_any ⟨_, _, _⟩ _).mono ?_; rintro e w' ⟨rfl, rfl⟩)
      go_ret
      exact ⟨by rw [HV.out]; rfl, by repeat (first | (with_reducible exact Below.refl _ _) | (with_reducible refine belowS ?_ _ _ (by omega) _) | (with_reducible refine belowA ?_ _) | (with_reducible refine belowN ?_ _) | (with_reducible refine belowD ?_))⟩
  · have hx' : amtOk ⟨a, b, c⟩ = false := by simpa using hx
    have HV : Hid (fitsOf ⟨a, b, c⟩ ⟨p, q, r⟩ = 0) := by unfold Hid fitsOf; rw [if_neg (fun h => hx h.1)]
    clear hx
    unfold Amt.v
    go_enter Try.func21, Try.ntmps21
    go_wp2_with (go_at_call 19; refine (implAmountsOk_any ⟨_, _, _⟩ _).mono ?_; rintro e w' ⟨rfl, rfl⟩)
    go_ret
    exact ⟨by rw [HV.out]; rfl, by repeat (first | (with_reducible exact Below.refl _ _) | (with_reducible refine belowS ?_ _ _ (by omega) _) | (with_reducible refine belowA ?_ _) | (with_reducible refine belowN ?_ _) | (with_reducible refine belowD ?_))⟩
end Go.Proofs.Ytbdegifmcppciaa

/- G63 -/
-- Laid by wip/g/gprint.py out of the translation, by the kit's print program. Lean checks it.
namespace Go.Proofs.Ytbdegifmcppciaa.G
open Go.RowKit Go.Proofs.YtbdegifmcppciaaW.PrintWords Go.Proofs.YtbdegifmcppciaaW.PrintLast Go.Proofs.YtbdegifmcppciaaW.PrintMore
attribute [local go_sem] max2_int min2_int max_two min_two max_three min_three max_four min_four   -- for this text's walks alone
set_option linter.unusedVariables false
set_option linter.unusedSimpArgs false

/-! ### spec_l1Int: function 63 -/
def spec_l1Int.f (s0_0 : List Int) (s0_1 : Int) (s0_2 : Int) (l1 : List Int) : Option (Int × Int × Int) := (spec_l1Below.f s0_0 s0_1 s0_2 (l1.length : Int)).bind fun bt261 => (if 0 ≤ bt261.1 then (if bt261.1 < (l1.length : Int) then (some (rd l1 bt261.1, bt261.2.1, bt261.2.2)) else (none)) else (none))
set_option maxHeartbeats 8000000 in
set_option maxRecDepth 100000 in
theorem spec_l1Int.calls (g : Nat) (s0_0 : List Int) (s0_1 : Int) (s0_2 : Int) (A1 : Option Addr) (c1 : Nat) (l1 : List Int) (r1 : Int) (r2 : Int) (r3 : Int) (w0 w : World) (hI : IsS75 w0 w g s0_0 s0_1 s0_2) (hB : Below w0.heap.size w0 w) (hr1 : Kd.C (Kd.int .i64) w A1 l1.length l1) (hc1 : l1.length ≤ c1) (hf1 : ∀ ad, A1 = some ad → 0 < l1.length → ad.block ≠ g) (h : spec_l1Int.f s0_0 s0_1 s0_2 l1 = some (r1, r2, r3)) :
    Calls Try.prog 63 #[.pointer (some ⟨g, 0, none⟩), .slice A1 l1.length c1] w fun e w' => e = .returned (.int .i64 r1) ∧ IsS75 w0 w' g s0_0 r2 r3 ∧ Below w0.heap.size w0 w' ∧ KeepBut w w' g none := by
  have HR1 := Aside0.mk hr1
  have HC1 := Aside0.mk hc1
  clear hr1 hc1
  have HI0 := Aside0.mk hI
  have HK := Aside0.mk (KeepBut.refl w g none)
  have HL := Aside0.mk hB.size
  clear hI
  have HW0 := Aside0.mk hB.size
  have HB := Aside0.mk hB
  clear hB
  have H : ((spec_l1Below.f s0_0 s0_1 s0_2 (l1.length : Int)).bind fun bt261 => (if 0 ≤ bt261.1 then (if bt261.1 < (l1.length : Int) then (some (rd l1 bt261.1, bt261.2.1, bt261.2.2)) else (none)) else (none))) = some (r1, r2, r3) := h
  clear h
  replace H := Option.bind_eq_some_iff.mp H
  obtain ⟨⟨t261, t262, t263⟩, A30, H⟩ := H
  replace H : (if 0 ≤ t261 then (if t261 < (l1.length : Int) then (some (rd l1 t261, t262, t263)) else (none)) else (none)) = some (r1, r2, r3) := H
  have A3 := Aside0.mk A30
  clear A30
  by_cases c4 : 0 ≤ t261
  · rw [if_pos c4] at H
    have c4b0 : decide (0 ≤ t261) = true := decide_eq_true c4
    clear c4
    by_cases c5 : t261 < (l1.length : Int)
    · rw [if_pos c5] at H
      have c5b0 : decide (t261 < (l1.length : Int)) = true := decide_eq_true c5
      clear c5
      simp only [Option.some.injEq, Prod.mk.injEq] at H
      obtain ⟨rfl, rfl, rfl⟩ := H
      go_enter Try.func63, Try.ntmps63
      go_wp2_with (first | ((with_reducible refine gate_callee (f := 64) rfl ?_); refine goesL_ (some 9) rfl rfl Try.func64 (by kernel_rfl) rfl #[.pointer (some ⟨g, 0, none⟩), .int .i64 (l1.length : Int)] rfl (by (try simp only [List.map_toArray, List.map_cons, List.map_nil]); first | done | rfl | (simp only [List.length_drop, List.length_take]; rfl)) ?_; (with_reducible refine (spec_l1Below.calls g s0_0 s0_1 s0_2 (l1.length : Int) t261 t262 t263 w0 _ ?side1 ?side2 A3.out).mono ?_); (case side1 => repeat (first | (with_reducible first | exact HI0.out | apply IsS75.alloc | apply IsS75.drewN | apply IsS75.drew | apply IsS75.set_1 | apply IsS75.set_2) | exact HI0.out)); (case side2 => repeat (first | (with_reducible first | exact HB.out | apply below_alloc | apply pw_below_drewN | apply below_drew1 | refine below_set ?_ (IsS75.ge HI0.out)) | exact HB.out)); rintro e w6 ⟨rfl, hi, hb, hk⟩; refine ⟨_, rfl, ?_⟩; have n0_ := Aside0.mk (KeepBut.trans (by repeat (first | (with_reducible first | exact HK.out | apply KeepBut.set_ | apply keep_drewN | apply keep_drew | apply keep_alloc) | exact HK.out)) hk (.inl rfl)); have n1_ := Aside0.mk (hb); have n2_ := Aside0.mk (hi); clear HK; clear HB; clear HI0; have HK := n0_; have HB := n1_; have HI0 := n2_; clear n0_ n1_ n2_; (try clear hb); (try clear hb2); (try clear hk); (try clear hi); have p264 : 0 ≤ (t261 : Int) := of_decide_eq_true (by first | (with_reducible assumption) | assumption); have q264 : t261 < (l1.length : Int) := of_decide_eq_true (by first | (with_reducible assumption) | assumption); obtain ⟨ad264, e264, hx264_0⟩ := Kd.at_int HR1.out t261 p264 q264; cases e264; replace hx264_0 := keep_cell HK.out hx264_0 (by first | (rw [add_block]; exact hf1 _ rfl (by omega)) | exact hf1 _ rfl (by omega) | exact hf1 ad264 rfl (by omega)); replace p264 := eq_true p264; replace q264 := eq_true q264))
      go_ret
      exact ⟨by first | rfl | (simp [errW_none, errW_some] <;> rfl) | (simp [*, errW_none, errW_some] <;> rfl), by repeat (first | (with_reducible first | exact HI0.out | apply IsS75.alloc | apply IsS75.drewN | apply IsS75.drew | apply IsS75.set_1 | apply IsS75.set_2) | exact HI0.out), by repeat (first | (with_reducible first | exact HB.out | apply below_alloc | apply pw_below_drewN | apply below_drew1 | refine below_set ?_ (IsS75.ge HI0.out)) | exact HB.out), by repeat (first | (with_reducible first | exact HK.out | apply KeepBut.set_ | apply keep_drewN | apply keep_drew | apply keep_alloc) | exact HK.out)⟩
    · rw [if_neg c5] at H
      exact absurd H (by simp)
  · rw [if_neg c4] at H
    exact absurd H (by simp)

end Go.Proofs.Ytbdegifmcppciaa.G
