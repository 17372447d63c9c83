import Derived.Test.YtmoiacijklkfaaaMFnExactBaseNew0
import Derived.Lib.Hide
import Derived.Lib.SliceRun
import Derived.WalkKit
import Derived.IntWalk
import Derived.Deep.LoopGhost
import Derived.WalkLawsBesides
import Derived.Test.YtmoiacijklkfaaaProg
import Derived.Below
import Derived.Deep.Draws
import Derived.Deep.AppendLies
import Derived.Maps.AppendAt
import Derived.OwnWalk
import Derived.Laws.BytesArg
import Derived.Laws.MakeOwn
import Derived.Laws.OwnMore
import Derived.Deep.OwnRows
import Derived.Tactics
import Derived.Lib.ConvBytes
import Derived.Laws.Slices
import Derived.KernelRfl
import Derived.RowKit3
import Derived.Deep.QuietTactic
import Derived.BigQuiet
import Derived.WideLaws
import Derived.Deep.DeepCutAuto
import Derived.Deep.CutBlock
import Derived.Deep.RegionHeld3
import Derived.Laws.Rows
import Derived.Lib.AppendStr
import Derived.ArgAppend
import Derived.Laws.IdiomCopy
import Derived.OrdersHeld
import Derived.Laws.BitsLemmas
import Derived.RowKit
/- GKit -/
/-
  Small words beside the print's: lists searched by a test that may lack an answer, rows that stand below a growing world.
-/
namespace Go.Proofs.Ytmoiacijklkfaaa.G
open Go.RowKit Go.Proofs.YtmoiacijklkfaaaW.PrintWords Go.Proofs.YtmoiacijklkfaaaW.PrintLast Go.Proofs.YtmoiacijklkfaaaW.PrintMore
set_option linter.unusedVariables false

section
variable {α : Type} {d : Kd α} {e base n c : Nat} {ok : Nat → Prop} {w : World} {A : Option Addr} {xs : List α}
end

/-! ### slices.DeleteFunc: what it leaves, and the state of its loop -/
def delO {α : Type} (p : α → Option Bool) : List α → Option (List α)
  | [] => some []
  | x :: xs => (p x).bind fun b => (delO p xs).bind fun ys => some (if b then ys else x :: ys)
structure DelSt {α : Type} (d : Kd α) (e : Nat) (p : α → Option Bool) (l0 r : List α) (ok : Nat → Prop) (w0 w : World) (g : Nat) (cur : Array Value) (m j : Nat) (wr : World) : Prop where
  st : ∃ (cur' : Array Value) (ys r2 : List α), ys.length = m ∧ wr.heap[g]? = some (.cells cur' e (0, 0)) ∧ cur'.size = cur.size ∧ cur'.toList.drop (j * d.sz) = cur.toList.drop (j * d.sz) ∧
    Reps (d.M wr w0.heap.size (fun k => ok k ∧ k ≠ g)) d.sz ys (cur'.toList.take (m * d.sz)) ∧ delO p (l0.drop j) = some r2 ∧ r = ys ++ r2
  kept : Kept w wr (fun k => k = g)
  below : Below w0.heap.size w0 wr
  pos : m < j
section
variable {α : Type} {d : Kd α} {e c : Nat} {p : α → Option Bool} {l0 r : List α} {ok : Nat → Prop} {w0 w wr W : World} {g m j : Nat} {cur : Array Value}
end
end Go.Proofs.Ytmoiacijklkfaaa.G

/- G0 -/
-- Laid by wip/g/gprint.py out of the translation, by the kit's print program. Lean checks it.
namespace Go.Proofs.Ytmoiacijklkfaaa.G
open Go.RowKit Go.Proofs.YtmoiacijklkfaaaW.PrintWords Go.Proofs.YtmoiacijklkfaaaW.PrintLast Go.Proofs.YtmoiacijklkfaaaW.PrintMore
attribute [local go_sem] max2_int min2_int max_two min_two max_three min_three max_four min_four   -- for this text's walks alone
set_option linter.unusedVariables false
set_option linter.unusedSimpArgs false

def errW : Option Int → Value
  | none => .nilIface
  | some c => .iface 0 (.int .i64 c)
theorem errW_none : errW none = .nilIface := rfl
theorem errW_some (c : Int) : errW (some c) = .iface 0 (.int .i64 c) := rfl

-- the values' own types
/-! #### struct type 67, nested in itself -/
structure S67 where
  f0 : Int
  f1 : ByteArray
  f2 : Int
  f3 : (List ByteArray)
  f4 : (List S67)
/-! #### struct type 121 -/
structure S121 where
  f0 : Int
  f1 : ByteArray
  f2 : Int
  f3 : Int
  f4 : Int
  f5 : Bool
  f6 : (List ByteArray)
  f7 : S67
  f8 : S67
/-! #### struct type 124 -/
structure S124 where
  f0 : Int
  f1 : Bool
  f2 : S121
/-! #### struct type 44, nested in itself -/
structure S44 where
  f0 : Int
  f1 : ByteArray
  f2 : Int
  f3 : (List ByteArray)
  f4 : (List S44)
def F44 (d : Kd S44) : Kd S44 := Kd.iso (Kd.pair (Kd.int .i64) (Kd.pair Kd.string (Kd.pair (Kd.int .i64) (Kd.pair (Kd.slice 9 Kd.string) (Kd.slice 44 d))))) (fun x : S44 => (x.f0, x.f1, x.f2, x.f3, x.f4))
theorem sub44 : Kd.Sub F44 [9, 44] := Kd.sub_iso _ (Kd.sub_pair (Kd.sub_const _ (by decide)) (Kd.sub_pair (Kd.sub_const _ (by decide)) (Kd.sub_pair (Kd.sub_const _ (by decide)) (Kd.sub_pair (Kd.sub_const _ (by decide)) (Kd.sub_slice 44 (by decide) Kd.sub_id)))))
theorem sz44 : ∀ n, (Kd.upto F44 5 [9, 44] n).sz = 5 := Kd.upto_sz (fun _ => rfl)
def k44 : Kd S44 := Kd.fix F44 5 [9, 44] sz44 (Kd.upto_E sub44)
/-! #### struct type 46 -/
structure S46 where
  f0 : Int
  f1 : ByteArray
  f2 : Int
  f3 : Int
  f4 : Int
  f5 : Bool
  f6 : (List ByteArray)
  f7 : S44
  f8 : S44
def k46 : Kd S46 := Kd.iso (Kd.pair (Kd.int .i64) (Kd.pair Kd.string (Kd.pair (Kd.int .i64) (Kd.pair (Kd.int .i64) (Kd.pair (Kd.int .i64) (Kd.pair Kd.bool (Kd.pair (Kd.slice 9 Kd.string) (Kd.pair k44 k44)))))))) (fun x : S46 => (x.f0, x.f1, x.f2, x.f3, x.f4, x.f5, x.f6, x.f7, x.f8))
/-! #### struct type 90 -/
structure S90 where
  f0 : Int
  f1 : Bool
  f2 : S46
def k90 : Kd S90 := Kd.iso (Kd.pair (Kd.int .i64) (Kd.pair Kd.bool k46)) (fun x : S90 => (x.f0, x.f1, x.f2))
/-! #### struct type 143 -/
structure S143 where
  f0 : ByteArray
  f1 : ByteArray
end Go.Proofs.Ytmoiacijklkfaaa.G

/- G31 -/
-- Laid by wip/g/gprint.py out of the translation, by the kit's print program. Lean checks it.
namespace Go.Proofs.Ytmoiacijklkfaaa.G
open Go.RowKit Go.Proofs.YtmoiacijklkfaaaW.PrintWords Go.Proofs.YtmoiacijklkfaaaW.PrintLast Go.Proofs.YtmoiacijklkfaaaW.PrintMore
attribute [local go_sem] max2_int min2_int max_two min_two max_three min_three max_four min_four   -- for this text's walks alone
set_option linter.unusedVariables false
set_option linter.unusedSimpArgs false

/-! ### laws_eqObjS: function 31 -/
--IMPORT Derived.Test.YtmoiacijklkfaaaGKit
def laws_eqObjS.f (l0 l1 : List S46) : Option Bool := if l0.length = 0 then (if l1.length = 0 then some true else none) else none
set_option maxHeartbeats 1000000 in
set_option maxRecDepth 100000 in
theorem laws_eqObjS.calls (A0 : Option Addr) (c0 : Nat) (l0 : List (S46)) (A1 : Option Addr) (c1 : Nat) (l1 : List (S46)) (r : Bool) (w : World) (hr0 : Kd.C k46 w A0 l0.length l0) (hc0 : l0.length ≤ c0) (hr1 : Kd.C k46 w A1 l1.length l1) (hc1 : l1.length ≤ c1) (h : laws_eqObjS.f l0 l1 = some r) :
    Calls Try.prog 31 #[.slice A0 l0.length c0, .slice A1 l1.length c1] w fun e w' => e = .returned (.bool r) ∧ Drawn0 w w' := by
  unfold laws_eqObjS.f at h
  by_cases hl : l0.length = 0
  · by_cases hm : l1.length = 0
    · rw [if_pos hl, if_pos hm] at h
      obtain rfl := Option.some.inj h
      obtain rfl := List.eq_nil_of_length_eq_zero hl
      obtain rfl := List.eq_nil_of_length_eq_zero hm
      clear h hl hm hr0 hr1
      go_enter Try.func31, Try.ntmps31
      go_wp2
      go_loopw [5] (fun i wr => i = .int .i64 0 ∧ Hid (Drawn0 w wr)) (fun _ _ => 0)
      case atStart => exact ⟨rfl, Drawn0.refl _⟩
      case round =>
        obtain ⟨rfl, HD⟩ := hrel
        go_wp2
        go_ret
        exact ⟨rfl, HD.out⟩
    · rw [if_pos hl, if_neg hm] at h
      cases h
  · rw [if_neg hl] at h
    cases h

end Go.Proofs.Ytmoiacijklkfaaa.G

/- G65 -/
-- Laid by wip/g/gprint.py out of the translation, by the kit's print program. Lean checks it.
namespace Go.Proofs.Ytmoiacijklkfaaa.G
open Go.RowKit Go.Proofs.YtmoiacijklkfaaaW.PrintWords Go.Proofs.YtmoiacijklkfaaaW.PrintLast Go.Proofs.YtmoiacijklkfaaaW.PrintMore
attribute [local go_sem] max2_int min2_int max_two min_two max_three min_three max_four min_four   -- for this text's walks alone
set_option linter.unusedVariables false
set_option linter.unusedSimpArgs false

/-! ### laws_eqChangeS: function 65 -/
--IMPORT Derived.Test.YtmoiacijklkfaaaGKit
def laws_eqChangeS.f (l0 l1 : List S90) : Option Bool := if l0.length = 0 then (if l1.length = 0 then some true else none) else none
set_option maxHeartbeats 1000000 in
set_option maxRecDepth 100000 in
theorem laws_eqChangeS.calls (A0 : Option Addr) (c0 : Nat) (l0 : List (S90)) (A1 : Option Addr) (c1 : Nat) (l1 : List (S90)) (r : Bool) (w : World) (hr0 : Kd.C k90 w A0 l0.length l0) (hc0 : l0.length ≤ c0) (hr1 : Kd.C k90 w A1 l1.length l1) (hc1 : l1.length ≤ c1) (h : laws_eqChangeS.f l0 l1 = some r) :
    Calls Try.prog 65 #[.slice A0 l0.length c0, .slice A1 l1.length c1] w fun e w' => e = .returned (.bool r) ∧ Drawn0 w w' := by
  unfold laws_eqChangeS.f at h
  by_cases hl : l0.length = 0
  · by_cases hm : l1.length = 0
    · rw [if_pos hl, if_pos hm] at h
      obtain rfl := Option.some.inj h
      obtain rfl := List.eq_nil_of_length_eq_zero hl
      obtain rfl := List.eq_nil_of_length_eq_zero hm
      clear h hl hm hr0 hr1
      go_enter Try.func65, Try.ntmps65
      go_wp2
      go_loopw [5] (fun i wr => i = .int .i64 0 ∧ Hid (Drawn0 w wr)) (fun _ _ => 0)
      case atStart => exact ⟨rfl, Drawn0.refl _⟩
      case round =>
        obtain ⟨rfl, HD⟩ := hrel
        go_wp2
        go_ret
        exact ⟨rfl, HD.out⟩
    · rw [if_pos hl, if_neg hm] at h
      cases h
  · rw [if_neg hl] at h
    cases h

end Go.Proofs.Ytmoiacijklkfaaa.G

/- G17 -/
-- Laid by wip/g/gprint.py out of the translation, by the kit's print program. Lean checks it.
namespace Go.Proofs.Ytmoiacijklkfaaa.G
open Go.RowKit Go.Proofs.YtmoiacijklkfaaaW.PrintWords Go.Proofs.YtmoiacijklkfaaaW.PrintLast Go.Proofs.YtmoiacijklkfaaaW.PrintMore
attribute [local go_sem] max2_int min2_int max_two min_two max_three min_three max_four min_four   -- for this text's walks alone
set_option linter.unusedVariables false
set_option linter.unusedSimpArgs false

/-! ### laws_eqBase: function 17 -/
def laws_eqBase.f (l0_0 : List (S46)) (a0_1 : Int) (a0_2 : Int) (l0_3 : List (S90)) (l1_0 : List (S46)) (a1_1 : Int) (a1_2 : Int) (l1_3 : List (S90)) : Option (Bool) := (laws_eqObjS.f l0_0 l1_0).bind fun t994 => (if t994 = true then (if a0_1 = a1_1 then (if a0_2 = a1_2 then ((laws_eqChangeS.f l0_3 l1_3).bind fun t995 => (if t995 = true then (some true) else (some false))) else (some false)) else (some false)) else (some false))
set_option maxHeartbeats 8000000 in
set_option maxRecDepth 100000 in
theorem laws_eqBase.calls (A0_0 : Option Addr) (c0_0 : Nat) (l0_0 : List (S46)) (a0_1 : Int) (a0_2 : Int) (A0_3 : Option Addr) (c0_3 : Nat) (l0_3 : List (S90)) (A1_0 : Option Addr) (c1_0 : Nat) (l1_0 : List (S46)) (a1_1 : Int) (a1_2 : Int) (A1_3 : Option Addr) (c1_3 : Nat) (l1_3 : List (S90)) (r : Bool) (w : World) (hr0_0 : Kd.C k46 w A0_0 l0_0.length l0_0) (hc0_0 : l0_0.length ≤ c0_0) (hr0_3 : Kd.C k90 w A0_3 l0_3.length l0_3) (hc0_3 : l0_3.length ≤ c0_3) (hr1_0 : Kd.C k46 w A1_0 l1_0.length l1_0) (hc1_0 : l1_0.length ≤ c1_0) (hr1_3 : Kd.C k90 w A1_3 l1_3.length l1_3) (hc1_3 : l1_3.length ≤ c1_3) (h : laws_eqBase.f l0_0 a0_1 a0_2 l0_3 l1_0 a1_1 a1_2 l1_3 = some r) :
    Calls Try.prog 17 #[.agg #[.slice A0_0 l0_0.length c0_0, .int .i64 a0_1, .int .i64 a0_2, .slice A0_3 l0_3.length c0_3], .agg #[.slice A1_0 l1_0.length c1_0, .int .i64 a1_1, .int .i64 a1_2, .slice A1_3 l1_3.length c1_3]] w fun e w' => e = .returned (.bool r) ∧ Below w.heap.size w w' := by
  have hu30 := Try.underlying30
  have HR0_0 := Aside0.mk hr0_0
  have HC0_0 := Aside0.mk hc0_0
  clear hr0_0 hc0_0
  have HR0_3 := Aside0.mk hr0_3
  have HC0_3 := Aside0.mk hc0_3
  clear hr0_3 hc0_3
  have HR1_0 := Aside0.mk hr1_0
  have HC1_0 := Aside0.mk hc1_0
  clear hr1_0 hc1_0
  have HR1_3 := Aside0.mk hr1_3
  have HC1_3 := Aside0.mk hc1_3
  clear hr1_3 hc1_3
  have HB := Aside0.mk (Below.refl w.heap.size w)
  have H : ((laws_eqObjS.f l0_0 l1_0).bind fun t994 => (if t994 = true then (if a0_1 = a1_1 then (if a0_2 = a1_2 then ((laws_eqChangeS.f l0_3 l1_3).bind fun t995 => (if t995 = true then (some true) else (some false))) else (some false)) else (some false)) else (some false))) = some r := h
  clear h
  replace H := Option.bind_eq_some_iff.mp H
  obtain ⟨t994, A30, H⟩ := H
  replace H : (if t994 = true then (if a0_1 = a1_1 then (if a0_2 = a1_2 then ((laws_eqChangeS.f l0_3 l1_3).bind fun t995 => (if t995 = true then (some true) else (some false))) else (some false)) else (some false)) else (some false)) = some r := H
  have A3 := Aside0.mk A30
  clear A30
  by_cases c4 : t994 = true
  · subst c4
    have H1 : (if a0_1 = a1_1 then (if a0_2 = a1_2 then ((laws_eqChangeS.f l0_3 l1_3).bind fun t995 => (if t995 = true then (some true) else (some false))) else (some false)) else (some false)) = some r := by rw [if_pos rfl] at H; exact H
    clear H
    have H := H1
    clear H1
    by_cases c5 : a0_1 = a1_1
    · rw [if_pos c5] at H
      have c5b0 : (a0_1 == a1_1) = true := beq_iff_eq.mpr c5
      have c5b1 : (a0_1 != a1_1) = false := bne_eq_false_iff_eq.mpr c5
      clear c5
      by_cases c6 : a0_2 = a1_2
      · rw [if_pos c6] at H
        have c6b0 : (a0_2 == a1_2) = true := beq_iff_eq.mpr c6
        have c6b1 : (a0_2 != a1_2) = false := bne_eq_false_iff_eq.mpr c6
        clear c6
        replace H := Option.bind_eq_some_iff.mp H
        obtain ⟨t995, A70, H⟩ := H
        replace H : (if t995 = true then (some true) else (some false)) = some r := H
        have A7 := Aside0.mk A70
        clear A70
        by_cases c8 : t995 = true
        · subst c8
          have H1 : (some true) = some r := by rw [if_pos rfl] at H; exact H
          clear H
          have H := H1
          clear H1
          obtain rfl := Option.some.inj H
          go_enter Try.func17, Try.ntmps17
          go_wp2_with (first | ((with_reducible refine gate_dst (N := 2) rfl ?_); refine box_event ?hg (N := 2) ?hd (cs := #[.slice A0_0 l0_0.length c0_0, .int .i64 a0_1, .int .i64 a0_2, .slice A0_3 l0_3.length c0_3]) (t := 30) ?hr ?_; (case hd => rfl); (case hg => rfl); (case hr => first | (go_simp; done) | (go_simp; rfl)); intro gb992 hg w9 hbox hb; have n0_ := Aside0.mk (below_step (by repeat (first | (with_reducible first | exact HB.out | apply below_alloc | apply pw_below_drewN | apply below_drew1) | exact HB.out)) hb); have n1_ := Aside0.mk (hbox); have n2_ := Aside0.mk ((by rw [hg]; exact (below_size (by repeat (first | (with_reducible first | exact HB.out | apply below_alloc | apply pw_below_drewN | apply below_drew1) | exact HB.out))) : w.heap.size ≤ gb992)); have n3_ := Aside0.mk ((by rw [hg]; exact (below_size (by repeat (first | (with_reducible first | exact HB.out | apply below_alloc | apply pw_below_drewN | apply below_drew1) | exact HB.out))) : w.heap.size ≤ gb992)); clear HB; have HB := n0_; have BK992 := n1_; have GW992 := n2_; have GE992 := n3_; clear n0_ n1_ n2_ n3_; clear hb hbox hg) | ((with_reducible refine gate_dst (N := 3) rfl ?_); refine box_event ?hg (N := 3) ?hd (cs := #[.slice A1_0 l1_0.length c1_0, .int .i64 a1_1, .int .i64 a1_2, .slice A1_3 l1_3.length c1_3]) (t := 30) ?hr ?_; (case hd => rfl); (case hg => rfl); (case hr => first | (go_simp; done) | (go_simp; rfl)); intro gb993 hg w10 hbox hb; have n0_ := Aside0.mk (blk_below (g := gb992) (o := .cells #[.slice A0_0 l0_0.length c0_0, .int .i64 a0_1, .int .i64 a0_2, .slice A0_3 l0_3.length c0_3] 30 (0, 0)) (by (with_reducible repeat (first | refine blk_drewN ?_ _ | refine blk_drew ?_ | refine blk_alloc ?_ _)); exact BK992.out) hb); have n1_ := Aside0.mk (below_step (by repeat (first | (with_reducible first | exact HB.out | apply below_alloc | apply pw_below_drewN | apply below_drew1 | refine below_set ?_ GE992.out) | exact HB.out)) hb); have n2_ := Aside0.mk (hbox); have n3_ := Aside0.mk ((by rw [hg]; exact (below_size (by repeat (first | (with_reducible first | exact HB.out | apply below_alloc | apply pw_below_drewN | apply below_drew1 | refine below_set ?_ GE992.out) | exact HB.out))) : w.heap.size ≤ gb993)); have n4_ := Aside0.mk ((by rw [hg]; exact (below_size (by repeat (first | (with_reducible first | exact HB.out | apply below_alloc | apply pw_below_drewN | apply below_drew1 | refine below_set ?_ GE992.out) | exact HB.out))) : w.heap.size ≤ gb993)); have n5_ := Aside0.mk ((by rw [hg]; exact Nat.ne_of_lt (blk_lt (g := gb992) (o := .cells #[.slice A0_0 l0_0.length c0_0, .int .i64 a0_1, .int .i64 a0_2, .slice A0_3 l0_3.length c0_3] 30 (0, 0)) (by (with_reducible repeat (first | refine blk_drewN ?_ _ | refine blk_drew ?_ | refine blk_alloc ?_ _)); exact BK992.out)) : gb992 ≠ gb993)); have n6_ := Aside0.mk ((by rw [hg]; exact Nat.ne_of_gt (blk_lt (g := gb992) (o := .cells #[.slice A0_0 l0_0.length c0_0, .int .i64 a0_1, .int .i64 a0_2, .slice A0_3 l0_3.length c0_3] 30 (0, 0)) (by (with_reducible repeat (first | refine blk_drewN ?_ _ | refine blk_drew ?_ | refine blk_alloc ?_ _)); exact BK992.out)) : gb993 ≠ gb992)); clear BK992; clear HB; have BK992 := n0_; have HB := n1_; have BK993 := n2_; have GW993 := n3_; have GE993 := n4_; have NB992_993 := n5_; have NB993_992 := n6_; clear n0_ n1_ n2_ n3_ n4_ n5_ n6_; clear hb hbox hg; have hnb11 := NB992_993.out; have hnc11 := NB993_992.out; have hcz12_0 : w10.cell? ⟨gb992, 0, none⟩ = some (.slice A0_0 l0_0.length c0_0) := (blk_cell BK992.out 0).trans rfl; have hcz12_1 : w10.cell? ⟨gb992, 1, none⟩ = some (.int .i64 a0_1) := (blk_cell BK992.out 1).trans rfl; have hcz12_2 : w10.cell? ⟨gb992, 2, none⟩ = some (.int .i64 a0_2) := (blk_cell BK992.out 2).trans rfl; have hcz12_3 : w10.cell? ⟨gb992, 3, none⟩ = some (.slice A0_3 l0_3.length c0_3) := (blk_cell BK992.out 3).trans rfl; have hfz12_0 := blk_frozen BK992.out 0; have hfz12_1 := blk_frozen BK992.out 1; have hfz12_2 := blk_frozen BK992.out 2; have hfz12_3 := blk_frozen BK992.out 3; have hcz13_0 : w10.cell? ⟨gb993, 0, none⟩ = some (.slice A1_0 l1_0.length c1_0) := (blk_cell BK993.out 0).trans rfl; have hcz13_1 : w10.cell? ⟨gb993, 1, none⟩ = some (.int .i64 a1_1) := (blk_cell BK993.out 1).trans rfl; have hcz13_2 : w10.cell? ⟨gb993, 2, none⟩ = some (.int .i64 a1_2) := (blk_cell BK993.out 2).trans rfl; have hcz13_3 : w10.cell? ⟨gb993, 3, none⟩ = some (.slice A1_3 l1_3.length c1_3) := (blk_cell BK993.out 3).trans rfl; have hfz13_0 := blk_frozen BK993.out 0; have hfz13_1 := blk_frozen BK993.out 1; have hfz13_2 := blk_frozen BK993.out 2; have hfz13_3 := blk_frozen BK993.out 3) | ((with_reducible refine gate_callee (f := 31) rfl ?_); refine goesL_ (some 9) rfl rfl Try.func31 (by kernel_rfl) rfl #[.slice A0_0 l0_0.length c0_0, .slice A1_0 l1_0.length c1_0] rfl (by (try simp only [List.map_toArray, List.map_cons, List.map_nil]); first | done | rfl | (simp only [List.length_drop, List.length_take]; rfl)) ?_; (with_reducible refine (laws_eqObjS.calls _ _ l0_0 _ _ l1_0 true _ ?side1 ?side2 ?side3 ?side4 A3.out).mono ?_); (case side1 => repeat (first | exact (Kd.C_below HR0_0.out HB.out) | (with_reducible refine Kd.C_alloc ?_ _) | (with_reducible refine Kd.C_drewN ?_ _) | (with_reducible refine Kd.C_drew ?_))); (case side2 => exact HC0_0.out); (case side3 => repeat (first | exact (Kd.C_below HR1_0.out HB.out) | (with_reducible refine Kd.C_alloc ?_ _) | (with_reducible refine Kd.C_drewN ?_ _) | (with_reducible refine Kd.C_drew ?_))); (case side4 => exact HC1_0.out); rintro e w' ⟨rfl, ⟨nd, rfl⟩⟩; refine ⟨_, rfl, ?_⟩) | ((with_reducible refine gate_callee (f := 65) rfl ?_); refine goesL_ (some 25) rfl rfl Try.func65 (by kernel_rfl) rfl #[.slice A0_3 l0_3.length c0_3, .slice A1_3 l1_3.length c1_3] rfl (by (try simp only [List.map_toArray, List.map_cons, List.map_nil]); first | done | rfl | (simp only [List.length_drop, List.length_take]; rfl)) ?_; (with_reducible refine (laws_eqChangeS.calls _ _ l0_3 _ _ l1_3 true _ ?side1 ?side2 ?side3 ?side4 A7.out).mono ?_); (case side1 => repeat (first | exact (Kd.C_below HR0_3.out (by repeat (first | (with_reducible first | exact HB.out | apply below_alloc | apply pw_below_drewN | apply below_drew1 | refine below_set ?_ GE992.out | refine below_set ?_ GE993.out) | exact HB.out))) | (with_reducible refine Kd.C_alloc ?_ _) | (with_reducible refine Kd.C_drewN ?_ _) | (with_reducible refine Kd.C_drew ?_))); (case side2 => exact HC0_3.out); (case side3 => repeat (first | exact (Kd.C_below HR1_3.out (by repeat (first | (with_reducible first | exact HB.out | apply below_alloc | apply pw_below_drewN | apply below_drew1 | refine below_set ?_ GE992.out | refine below_set ?_ GE993.out) | exact HB.out))) | (with_reducible refine Kd.C_alloc ?_ _) | (with_reducible refine Kd.C_drewN ?_ _) | (with_reducible refine Kd.C_drew ?_))); (case side4 => exact HC1_3.out); rintro e w' ⟨rfl, ⟨nd, rfl⟩⟩; refine ⟨_, rfl, ?_⟩))
          go_ret
          exact ⟨by first | rfl | (simp [errW_none, errW_some] <;> rfl) | (simp [*, errW_none, errW_some] <;> rfl), by repeat (first | (with_reducible first | exact HB.out | apply below_alloc | apply pw_below_drewN | apply below_drew1 | refine below_set ?_ GE992.out | refine below_set ?_ GE993.out) | exact HB.out)⟩
        · replace c8 := Bool.eq_false_iff.mpr c8
          subst c8
          have H1 : (some false) = some r := by rw [if_neg (show ¬ (false = true) by decide)] at H; exact H
          clear H
          have H := H1
          clear H1
          obtain rfl := Option.some.inj H
          go_enter Try.func17, Try.ntmps17
          go_wp2_with (first | ((with_reducible refine gate_dst (N := 2) rfl ?_); refine box_event ?hg (N := 2) ?hd (cs := #[.slice A0_0 l0_0.length c0_0, .int .i64 a0_1, .int .i64 a0_2, .slice A0_3 l0_3.length c0_3]) (t := 30) ?hr ?_; (case hd => rfl); (case hg => rfl); (case hr => first | (go_simp; done) | (go_simp; rfl)); intro gb992 hg w14 hbox hb; have n0_ := Aside0.mk (below_step (by repeat (first | (with_reducible first | exact HB.out | apply below_alloc | apply pw_below_drewN | apply below_drew1) | exact HB.out)) hb); have n1_ := Aside0.mk (hbox); have n2_ := Aside0.mk ((by rw [hg]; exact (below_size (by repeat (first | (with_reducible first | exact HB.out | apply below_alloc | apply pw_below_drewN | apply below_drew1) | exact HB.out))) : w.heap.size ≤ gb992)); have n3_ := Aside0.mk ((by rw [hg]; exact (below_size (by repeat (first | (with_reducible first | exact HB.out | apply below_alloc | apply pw_below_drewN | apply below_drew1) | exact HB.out))) : w.heap.size ≤ gb992)); clear HB; have HB := n0_; have BK992 := n1_; have GW992 := n2_; have GE992 := n3_; clear n0_ n1_ n2_ n3_; clear hb hbox hg) | ((with_reducible refine gate_dst (N := 3) rfl ?_); refine box_event ?hg (N := 3) ?hd (cs := #[.slice A1_0 l1_0.length c1_0, .int .i64 a1_1, .int .i64 a1_2, .slice A1_3 l1_3.length c1_3]) (t := 30) ?hr ?_; (case hd => rfl); (case hg => rfl); (case hr => first | (go_simp; done) | (go_simp; rfl)); intro gb993 hg w15 hbox hb; have n0_ := Aside0.mk (blk_below (g := gb992) (o := .cells #[.slice A0_0 l0_0.length c0_0, .int .i64 a0_1, .int .i64 a0_2, .slice A0_3 l0_3.length c0_3] 30 (0, 0)) (by (with_reducible repeat (first | refine blk_drewN ?_ _ | refine blk_drew ?_ | refine blk_alloc ?_ _)); exact BK992.out) hb); have n1_ := Aside0.mk (below_step (by repeat (first | (with_reducible first | exact HB.out | apply below_alloc | apply pw_below_drewN | apply below_drew1 | refine below_set ?_ GE992.out) | exact HB.out)) hb); have n2_ := Aside0.mk (hbox); have n3_ := Aside0.mk ((by rw [hg]; exact (below_size (by repeat (first | (with_reducible first | exact HB.out | apply below_alloc | apply pw_below_drewN | apply below_drew1 | refine below_set ?_ GE992.out) | exact HB.out))) : w.heap.size ≤ gb993)); have n4_ := Aside0.mk ((by rw [hg]; exact (below_size (by repeat (first | (with_reducible first | exact HB.out | apply below_alloc | apply pw_below_drewN | apply below_drew1 | refine below_set ?_ GE992.out) | exact HB.out))) : w.heap.size ≤ gb993)); have n5_ := Aside0.mk ((by rw [hg]; exact Nat.ne_of_lt (blk_lt (g := gb992) (o := .cells #[.slice A0_0 l0_0.length c0_0, .int .i64 a0_1, .int .i64 a0_2, .slice A0_3 l0_3.length c0_3] 30 (0, 0)) (by (with_reducible repeat (first | refine blk_drewN ?_ _ | refine blk_drew ?_ | refine blk_alloc ?_ _)); exact BK992.out)) : gb992 ≠ gb993)); have n6_ := Aside0.mk ((by rw [hg]; exact Nat.ne_of_gt (blk_lt (g := gb992) (o := .cells #[.slice A0_0 l0_0.length c0_0, .int .i64 a0_1, .int .i64 a0_2, .slice A0_3 l0_3.length c0_3] 30 (0, 0)) (by (with_reducible repeat (first | refine blk_drewN ?_ _ | refine blk_drew ?_ | refine blk_alloc ?_ _)); exact BK992.out)) : gb993 ≠ gb992)); clear BK992; clear HB; have BK992 := n0_; have HB := n1_; have BK993 := n2_; have GW993 := n3_; have GE993 := n4_; have NB992_993 := n5_; have NB993_992 := n6_; clear n0_ n1_ n2_ n3_ n4_ n5_ n6_; clear hb hbox hg; have hnb16 := NB992_993.out; have hnc16 := NB993_992.out; have hcz17_0 : w15.cell? ⟨gb992, 0, none⟩ = some (.slice A0_0 l0_0.length c0_0) := (blk_cell BK992.out 0).trans rfl; have hcz17_1 : w15.cell? ⟨gb992, 1, none⟩ = some (.int .i64 a0_1) := (blk_cell BK992.out 1).trans rfl; have hcz17_2 : w15.cell? ⟨gb992, 2, none⟩ = some (.int .i64 a0_2) := (blk_cell BK992.out 2).trans rfl; have hcz17_3 : w15.cell? ⟨gb992, 3, none⟩ = some (.slice A0_3 l0_3.length c0_3) := (blk_cell BK992.out 3).trans rfl; have hfz17_0 := blk_frozen BK992.out 0; have hfz17_1 := blk_frozen BK992.out 1; have hfz17_2 := blk_frozen BK992.out 2; have hfz17_3 := blk_frozen BK992.out 3; have hcz18_0 : w15.cell? ⟨gb993, 0, none⟩ = some (.slice A1_0 l1_0.length c1_0) := (blk_cell BK993.out 0).trans rfl; have hcz18_1 : w15.cell? ⟨gb993, 1, none⟩ = some (.int .i64 a1_1) := (blk_cell BK993.out 1).trans rfl; have hcz18_2 : w15.cell? ⟨gb993, 2, none⟩ = some (.int .i64 a1_2) := (blk_cell BK993.out 2).trans rfl; have hcz18_3 : w15.cell? ⟨gb993, 3, none⟩ = some (.slice A1_3 l1_3.length c1_3) := (blk_cell BK993.out 3).trans rfl; have hfz18_0 := blk_frozen BK993.out 0; have hfz18_1 := blk_frozen BK993.out 1; have hfz18_2 := blk_frozen BK993.out 2; have hfz18_3 := blk_frozen BK993.out 3) | ((with_reducible refine gate_callee (f := 31) rfl ?_); refine goesL_ (some 9) rfl rfl Try.func31 (by kernel_rfl) rfl #[.slice A0_0 l0_0.length c0_0, .slice A1_0 l1_0.length c1_0] rfl (by (try simp only [List.map_toArray, List.map_cons, List.map_nil]); first | done | rfl | (simp only [List.length_drop, List.length_take]; rfl)) ?_; (with_reducible refine (laws_eqObjS.calls _ _ l0_0 _ _ l1_0 true _ ?side1 ?side2 ?side3 ?side4 A3.out).mono ?_); (case side1 => repeat (first | exact (Kd.C_below HR0_0.out HB.out) | (with_reducible refine Kd.C_alloc ?_ _) | (with_reducible refine Kd.C_drewN ?_ _) | (with_reducible refine Kd.C_drew ?_))); (case side2 => exact HC0_0.out); (case side3 => repeat (first | exact (Kd.C_below HR1_0.out HB.out) | (with_reducible refine Kd.C_alloc ?_ _) | (with_reducible refine Kd.C_drewN ?_ _) | (with_reducible refine Kd.C_drew ?_))); (case side4 => exact HC1_0.out); rintro e w' ⟨rfl, ⟨nd, rfl⟩⟩; refine ⟨_, rfl, ?_⟩) | ((with_reducible refine gate_callee (f := 65) rfl ?_); refine goesL_ (some 25) rfl rfl Try.func65 (by kernel_rfl) rfl #[.slice A0_3 l0_3.length c0_3, .slice A1_3 l1_3.length c1_3] rfl (by (try simp only [List.map_toArray, List.map_cons, List.map_nil]); first | done | rfl | (simp only [List.length_drop, List.length_take]; rfl)) ?_; (with_reducible refine (laws_eqChangeS.calls _ _ l0_3 _ _ l1_3 false _ ?side1 ?side2 ?side3 ?side4 A7.out).mono ?_); (case side1 => repeat (first | exact (Kd.C_below HR0_3.out (by repeat (first | (with_reducible first | exact HB.out | apply below_alloc | apply pw_below_drewN | apply below_drew1 | refine below_set ?_ GE992.out | refine below_set ?_ GE993.out) | exact HB.out))) | (with_reducible refine Kd.C_alloc ?_ _) | (with_reducible refine Kd.C_drewN ?_ _) | (with_reducible refine Kd.C_drew ?_))); (case side2 => exact HC0_3.out); (case side3 => repeat (first | exact (Kd.C_below HR1_3.out (by repeat (first | (with_reducible first | exact HB.out | apply below_alloc | apply pw_below_drewN | apply below_drew1 | refine below_set ?_ GE992.out | refine below_set ?_ GE993.out) | exact HB.out))) | (with_reducible refine Kd.C_alloc ?_ _) | (with_reducible refine Kd.C_drewN ?_ _) | (with_reducible refine Kd.C_drew ?_))); (case side4 => exact HC1_3.out); rintro e w' ⟨rfl, ⟨nd, rfl⟩⟩; refine ⟨_, rfl, ?_⟩))
          go_ret
          exact ⟨by first | rfl | (simp [errW_none, errW_some] <;> rfl) | (simp [*, errW_none, errW_some] <;> rfl), by repeat (first | (with_reducible first | exact HB.out | apply below_alloc | apply pw_below_drewN | apply below_drew1 | refine below_set ?_ GE992.out | refine below_set ?_ GE993.out) | exact HB.out)⟩
      · rw [if_neg c6] at H
        have c6b0 : (a0_2 == a1_2) = false := beq_eq_false_iff_ne.mpr c6
        have c6b1 : (a0_2 != a1_2) = true := bne_iff_ne.mpr c6
        obtain rfl := Option.some.inj H
        go_enter Try.func17, Try.ntmps17
        go_wp2_with (first | ((with_reducible refine gate_dst (N := 2) rfl ?_); refine box_event ?hg (N := 2) ?hd (cs := #[.slice A0_0 l0_0.length c0_0, .int .i64 a0_1, .int .i64 a0_2, .slice A0_3 l0_3.length c0_3]) (t := 30) ?hr ?_; (case hd => rfl); (case hg => rfl); (case hr => first | (go_simp; done) | (go_simp; rfl)); intro gb992 hg w19 hbox hb; have n0_ := Aside0.mk (below_step (by repeat (first | (with_reducible first | exact HB.out | apply below_alloc | apply pw_below_drewN | apply below_drew1) | exact HB.out)) hb); have n1_ := Aside0.mk (hbox); have n2_ := Aside0.mk ((by rw [hg]; exact (below_size (by repeat (first | (with_reducible first | exact HB.out | apply below_alloc | apply pw_below_drewN | apply below_drew1) | exact HB.out))) : w.heap.size ≤ gb992)); have n3_ := Aside0.mk ((by rw [hg]; exact (below_size (by repeat (first | (with_reducible first | exact HB.out | apply below_alloc | apply pw_below_drewN | apply below_drew1) | exact HB.out))) : w.heap.size ≤ gb992)); clear HB; have HB := n0_; have BK992 := n1_; have GW992 := n2_; have GE992 := n3_; clear n0_ n1_ n2_ n3_; clear hb hbox hg) | ((with_reducible refine gate_dst (N := 3) rfl ?_); refine box_event ?hg (N := 3) ?hd (cs := #[.slice A1_0 l1_0.length c1_0, .int .i64 a1_1, .int .i64 a1_2, .slice A1_3 l1_3.length c1_3]) (t := 30) ?hr ?_; (case hd => rfl); (case hg => rfl); (case hr => first | (go_simp; done) | (go_simp; rfl)); intro gb993 hg w20 hbox hb; have n0_ := Aside0.mk (blk_below (g := gb992) (o := .cells #[.slice A0_0 l0_0.length c0_0, .int .i64 a0_1, .int .i64 a0_2, .slice A0_3 l0_3.length c0_3] 30 (0, 0)) (by (with_reducible repeat (first | refine blk_drewN ?_ _ | refine blk_drew ?_ | refine blk_alloc ?_ _)); exact BK992.out) hb); have n1_ := Aside0.mk (below_step (by repeat (first | (with_reducible first | exact HB.out | apply below_alloc | apply pw_below_drewN | apply below_drew1 | refine below_set ?_ GE992.out) | exact HB.out)) hb); have n2_ := Aside0.mk (hbox); have n3_ := Aside0.mk ((by rw [hg]; exact (below_size (by repeat (first | (with_reducible first | exact HB.out | apply below_alloc | apply pw_below_drewN | apply below_drew1 | refine below_set ?_ GE992.out) | exact HB.out))) : w.heap.size ≤ gb993)); have n4_ := Aside0.mk ((by rw [hg]; exact (below_size (by repeat (first | (with_reducible first | exact HB.out | apply below_alloc | apply pw_below_drewN | apply below_drew1 | refine below_set ?_ GE992.out) | exact HB.out))) : w.heap.size ≤ gb993)); have n5_ := Aside0.mk ((by rw [hg]; exact Nat.ne_of_lt (blk_lt (g := gb992) (o := .cells #[.slice A0_0 l0_0.length c0_0, .int .i64 a0_1, .int .i64 a0_2, .slice A0_3 l0_3.length c0_3] 30 (0, 0)) (by (with_reducible repeat (first | refine blk_drewN ?_ _ | refine blk_drew ?_ | refine blk_alloc ?_ _)); exact BK992.out)) : gb992 ≠ gb993)); have n6_ := Aside0.mk ((by rw [hg]; exact Nat.ne_of_gt (blk_lt (g := gb992) (o := .cells #[.slice A0_0 l0_0.length c0_0, .int .i64 a0_1, .int .i64 a0_2, .slice A0_3 l0_3.length c0_3] 30 (0, 0)) (by (with_reducible repeat (first | refine blk_drewN ?_ _ | refine blk_drew ?_ | refine blk_alloc ?_ _)); exact BK992.out)) : gb993 ≠ gb992)); clear BK992; clear HB; have BK992 := n0_; have HB := n1_; have BK993 := n2_; have GW993 := n3_; have GE993 := n4_; have NB992_993 := n5_; have NB993_992 := n6_; clear n0_ n1_ n2_ n3_ n4_ n5_ n6_; clear hb hbox hg; have hnb21 := NB992_993.out; have hnc21 := NB993_992.out; have hcz22_0 : w20.cell? ⟨gb992, 0, none⟩ = some (.slice A0_0 l0_0.length c0_0) := (blk_cell BK992.out 0).trans rfl; have hcz22_1 : w20.cell? ⟨gb992, 1, none⟩ = some (.int .i64 a0_1) := (blk_cell BK992.out 1).trans rfl; have hcz22_2 : w20.cell? ⟨gb992, 2, none⟩ = some (.int .i64 a0_2) := (blk_cell BK992.out 2).trans rfl; have hcz22_3 : w20.cell? ⟨gb992, 3, none⟩ = some (.slice A0_3 l0_3.length c0_3) := (blk_cell BK992.out 3).trans rfl; have hfz22_0 := blk_frozen BK992.out 0; have hfz22_1 := blk_frozen BK992.out 1; have hfz22_2 := blk_frozen BK992.out 2; have hfz22_3 := blk_frozen BK992.out 3; have hcz23_0 : w20.cell? ⟨gb993, 0, none⟩ = some (.slice A1_0 l1_0.length c1_0) := (blk_cell BK993.out 0).trans rfl; have hcz23_1 : w20.cell? ⟨gb993, 1, none⟩ = some (.int .i64 a1_1) := (blk_cell BK993.out 1).trans rfl; have hcz23_2 : w20.cell? ⟨gb993, 2, none⟩ = some (.int .i64 a1_2) := (blk_cell BK993.out 2).trans rfl; have hcz23_3 : w20.cell? ⟨gb993, 3, none⟩ = some (.slice A1_3 l1_3.length c1_3) := (blk_cell BK993.out 3).trans rfl; have hfz23_0 := blk_frozen BK993.out 0; have hfz23_1 := blk_frozen BK993.out 1; have hfz23_2 := blk_frozen BK993.out 2; have hfz23_3 := blk_frozen BK993.out 3) | ((with_reducible refine gate_callee (f := 31) rfl ?_); refine goesL_ (some 9) rfl rfl Try.func31 (by kernel_rfl) rfl #[.slice A0_0 l0_0.length c0_0, .slice A1_0 l1_0.length c1_0] rfl (by (try simp only [List.map_toArray, List.map_cons, List.map_nil]); first | done | rfl | (simp only [List.length_drop, List.length_take]; rfl)) ?_; (with_reducible refine (laws_eqObjS.calls _ _ l0_0 _ _ l1_0 true _ ?side1 ?side2 ?side3 ?side4 A3.out).mono ?_); (case side1 => repeat (first | exact (Kd.C_below HR0_0.out HB.out) | (with_reducible refine Kd.C_alloc ?_ _) | (with_reducible refine Kd.C_drewN ?_ _) | (with_reducible refine Kd.C_drew ?_))); (case side2 => exact HC0_0.out); (case side3 => repeat (first | exact (Kd.C_below HR1_0.out HB.out) | (with_reducible refine Kd.C_alloc ?_ _) | (with_reducible refine Kd.C_drewN ?_ _) | (with_reducible refine Kd.C_drew ?_))); (case side4 => exact HC1_0.out); rintro e w' ⟨rfl, ⟨nd, rfl⟩⟩; refine ⟨_, rfl, ?_⟩))
        go_ret
        exact ⟨by first | rfl | (simp [errW_none, errW_some] <;> rfl) | (simp [*, errW_none, errW_some] <;> rfl), by repeat (first | (with_reducible first | exact HB.out | apply below_alloc | apply pw_below_drewN | apply below_drew1 | refine below_set ?_ GE992.out | refine below_set ?_ GE993.out) | exact HB.out)⟩
    · rw [if_neg c5] at H
      have c5b0 : (a0_1 == a1_1) = false := beq_eq_false_iff_ne.mpr c5
      have c5b1 : (a0_1 != a1_1) = true := bne_iff_ne.mpr c5
      obtain rfl := Option.some.inj H
      go_enter Try.func17, Try.ntmps17
      go_wp2_with (first | ((with_reducible refine gate_dst (N := 2) rfl ?_); refine box_event ?hg (N := 2) ?hd (cs := #[.slice A0_0 l0_0.length c0_0, .int .i64 a0_1, .int .i64 a0_2, .slice A0_3 l0_3.length c0_3]) (t := 30) ?hr ?_; (case hd => rfl); (case hg => rfl); (case hr => first | (go_simp; done) | (go_simp; rfl)); intro gb992 hg w24 hbox hb; have n0_ := Aside0.mk (below_step (by repeat (first | (with_reducible first | exact HB.out | apply below_alloc | apply pw_below_drewN | apply below_drew1) | exact HB.out)) hb); have n1_ := Aside0.mk (hbox); have n2_ := Aside0.mk ((by rw [hg]; exact (below_size (by repeat (first | (with_reducible first | exact HB.out | apply below_alloc | apply pw_below_drewN | apply below_drew1) | exact HB.out))) : w.heap.size ≤ gb992)); have n3_ := Aside0.mk ((by rw [hg]; exact (below_size (by repeat (first | (with_reducible first | exact HB.out | apply below_alloc | apply pw_below_drewN | apply below_drew1) | exact HB.out))) : w.heap.size ≤ gb992)); clear HB; have HB := n0_; have BK992 := n1_; have GW992 := n2_; have GE992 := n3_; clear n0_ n1_ n2_ n3_; clear hb hbox hg) | ((with_reducible refine gate_dst (N := 3) rfl ?_); refine box_event ?hg (N := 3) ?hd (cs := #[.slice A1_0 l1_0.length c1_0, .int .i64 a1_1, .int .i64 a1_2, .slice A1_3 l1_3.length c1_3]) (t := 30) ?hr ?_; (case hd => rfl); (case hg => rfl); (case hr => first | (go_simp; done) | (go_simp; rfl)); intro gb993 hg w25 hbox hb; have n0_ := Aside0.mk (blk_below (g := gb992) (o := .cells #[.slice A0_0 l0_0.length c0_0, .int .i64 a0_1, .int .i64 a0_2, .slice A0_3 l0_3.length c0_3] 30 (0, 0)) (by (with_reducible repeat (first | refine blk_drewN ?_ _ | refine blk_drew ?_ | refine blk_alloc ?_ _)); exact BK992.out) hb); have n1_ := Aside0.mk (below_step (by repeat (first | (with_reducible first | exact HB.out | apply below_alloc | apply pw_below_drewN | apply below_drew1 | refine below_set ?_ GE992.out) | exact HB.out)) hb); have n2_ := Aside0.mk (hbox); have n3_ := Aside0.mk ((by rw [hg]; exact (below_size (by repeat (first | (with_reducible first | exact HB.out | apply below_alloc | apply pw_below_drewN | apply below_drew1 | refine below_set ?_ GE992.out) | exact HB.out))) : w.heap.size ≤ gb993)); have n4_ := Aside0.mk ((by rw [hg]; exact (below_size (by repeat (first | (with_reducible first | exact HB.out | apply below_alloc | apply pw_below_drewN | apply below_drew1 | refine below_set ?_ GE992.out) | exact HB.out))) : w.heap.size ≤ gb993)); have n5_ := Aside0.mk ((by rw [hg]; exact Nat.ne_of_lt (blk_lt (g := gb992) (o := .cells #[.slice A0_0 l0_0.length c0_0, .int .i64 a0_1, .int .i64 a0_2, .slice A0_3 l0_3.length c0_3] 30 (0, 0)) (by (with_reducible repeat (first | refine blk_drewN ?_ _ | refine blk_drew ?_ | refine blk_alloc ?_ _)); exact BK992.out)) : gb992 ≠ gb993)); have n6_ := Aside0.mk ((by rw [hg]; exact Nat.ne_of_gt (blk_lt (g := gb992) (o := .cells #[.slice A0_0 l0_0.length c0_0, .int .i64 a0_1, .int .i64 a0_2, .slice A0_3 l0_3.length c0_3] 30 (0, 0)) (by (with_reducible repeat (first | refine blk_drewN ?_ _ | refine blk_drew ?_ | refine blk_alloc ?_ _)); exact BK992.out)) : gb993 ≠ gb992)); clear BK992; clear HB; have BK992 := n0_; have HB := n1_; have BK993 := n2_; have GW993 := n3_; have GE993 := n4_; have NB992_993 := n5_; have NB993_992 := n6_; clear n0_ n1_ n2_ n3_ n4_ n5_ n6_; clear hb hbox hg; have hnb26 := NB992_993.out; have hnc26 := NB993_992.out; have hcz27_0 : w25.cell? ⟨gb992, 0, none⟩ = some (.slice A0_0 l0_0.length c0_0) := (blk_cell BK992.out 0).trans rfl; have hcz27_1 : w25.cell? ⟨gb992, 1, none⟩ = some (.int .i64 a0_1) := (blk_cell BK992.out 1).trans rfl; have hcz27_2 : w25.cell? ⟨gb992, 2, none⟩ = some (.int .i64 a0_2) := (blk_cell BK992.out 2).trans rfl; have hcz27_3 : w25.cell? ⟨gb992, 3, none⟩ = some (.slice A0_3 l0_3.length c0_3) := (blk_cell BK992.out 3).trans rfl; have hfz27_0 := blk_frozen BK992.out 0; have hfz27_1 := blk_frozen BK992.out 1; have hfz27_2 := blk_frozen BK992.out 2; have hfz27_3 := blk_frozen BK992.out 3; have hcz28_0 : w25.cell? ⟨gb993, 0, none⟩ = some (.slice A1_0 l1_0.length c1_0) := (blk_cell BK993.out 0).trans rfl; have hcz28_1 : w25.cell? ⟨gb993, 1, none⟩ = some (.int .i64 a1_1) := (blk_cell BK993.out 1).trans rfl; have hcz28_2 : w25.cell? ⟨gb993, 2, none⟩ = some (.int .i64 a1_2) := (blk_cell BK993.out 2).trans rfl; have hcz28_3 : w25.cell? ⟨gb993, 3, none⟩ = some (.slice A1_3 l1_3.length c1_3) := (blk_cell BK993.out 3).trans rfl; have hfz28_0 := blk_frozen BK993.out 0; have hfz28_1 := blk_frozen BK993.out 1; have hfz28_2 := blk_frozen BK993.out 2; have hfz28_3 := blk_frozen BK993.out 3) | ((with_reducible refine gate_callee (f := 31) rfl ?_); refine goesL_ (some 9) rfl rfl Try.func31 (by kernel_rfl) rfl #[.slice A0_0 l0_0.length c0_0, .slice A1_0 l1_0.length c1_0] rfl (by (try simp only [List.map_toArray, List.map_cons, List.map_nil]); first | done | rfl | (simp only [List.length_drop, List.length_take]; rfl)) ?_; (with_reducible refine (laws_eqObjS.calls _ _ l0_0 _ _ l1_0 true _ ?side1 ?side2 ?side3 ?side4 A3.out).mono ?_); (case side1 => repeat (first | exact (Kd.C_below HR0_0.out HB.out) | (with_reducible refine Kd.C_alloc ?_ _) | (with_reducible refine Kd.C_drewN ?_ _) | (with_reducible refine Kd.C_drew ?_))); (case side2 => exact HC0_0.out); (case side3 => repeat (first | exact (Kd.C_below HR1_0.out HB.out) | (with_reducible refine Kd.C_alloc ?_ _) | (with_reducible refine Kd.C_drewN ?_ _) | (with_reducible refine Kd.C_drew ?_))); (case side4 => exact HC1_0.out); rintro e w' ⟨rfl, ⟨nd, rfl⟩⟩; refine ⟨_, rfl, ?_⟩))
      go_ret
      exact ⟨by first | rfl | (simp [errW_none, errW_some] <;> rfl) | (simp [*, errW_none, errW_some] <;> rfl), by repeat (first | (with_reducible first | exact HB.out | apply below_alloc | apply pw_below_drewN | apply below_drew1 | refine below_set ?_ GE992.out | refine below_set ?_ GE993.out) | exact HB.out)⟩
  · replace c4 := Bool.eq_false_iff.mpr c4
    subst c4
    have H1 : (some false) = some r := by rw [if_neg (show ¬ (false = true) by decide)] at H; exact H
    clear H
    have H := H1
    clear H1
    obtain rfl := Option.some.inj H
    go_enter Try.func17, Try.ntmps17
    go_wp2_with (first | ((with_reducible refine gate_dst (N := 2) rfl ?_); refine box_event ?hg (N := 2) ?hd (cs := #[.slice A0_0 l0_0.length c0_0, .int .i64 a0_1, .int .i64 a0_2, .slice A0_3 l0_3.length c0_3]) (t := 30) ?hr ?_; (case hd => rfl); (case hg => rfl); (case hr => first | (go_simp; done) | (go_simp; rfl)); intro gb992 hg w29 hbox hb; have n0_ := Aside0.mk (below_step (by repeat (first | (with_reducible first | exact HB.out | apply below_alloc | apply pw_below_drewN | apply below_drew1) | exact HB.out)) hb); have n1_ := Aside0.mk (hbox); have n2_ := Aside0.mk ((by rw [hg]; exact (below_size (by repeat (first | (with_reducible first | exact HB.out | apply below_alloc | apply pw_below_drewN | apply below_drew1) | exact HB.out))) : w.heap.size ≤ gb992)); have n3_ := Aside0.mk ((by rw [hg]; exact (below_size (by repeat (first | (with_reducible first | exact HB.out | apply below_alloc | apply pw_below_drewN | apply below_drew1) | exact HB.out))) : w.heap.size ≤ gb992)); clear HB; have HB := n0_; have BK992 := n1_; have GW992 := n2_; have GE992 := n3_; clear n0_ n1_ n2_ n3_; clear hb hbox hg) | ((with_reducible refine gate_dst (N := 3) rfl ?_); refine box_event ?hg (N := 3) ?hd (cs := #[.slice A1_0 l1_0.length c1_0, .int .i64 a1_1, .int .i64 a1_2, .slice A1_3 l1_3.length c1_3]) (t := 30) ?hr ?_; (case hd => rfl); (case hg => rfl); (case hr => first | (go_simp; done) | (go_simp; rfl)); intro gb993 hg w30 hbox hb; have n0_ := Aside0.mk (blk_below (g := gb992) (o := .cells #[.slice A0_0 l0_0.length c0_0, .int .i64 a0_1, .int .i64 a0_2, .slice A0_3 l0_3.length c0_3] 30 (0, 0)) (by (with_reducible repeat (first | refine blk_drewN ?_ _ | refine blk_drew ?_ | refine blk_alloc ?_ _)); exact BK992.out) hb); have n1_ := Aside0.mk (below_step (by repeat (first | (with_reducible first | exact HB.out | apply below_alloc | apply pw_below_drewN | apply below_drew1 | refine below_set ?_ GE992.out) | exact HB.out)) hb); have n2_ := Aside0.mk (hbox); have n3_ := Aside0.mk ((by rw [hg]; exact (below_size (by repeat (first | (with_reducible first | exact HB.out | apply below_alloc | apply pw_below_drewN | apply below_drew1 | refine below_set ?_ GE992.out) | exact HB.out))) : w.heap.size ≤ gb993)); have n4_ := Aside0.mk ((by rw [hg]; exact (below_size (by repeat (first | (with_reducible first | exact HB.out | apply below_alloc | apply pw_below_drewN | apply below_drew1 | refine below_set ?_ GE992.out) | exact HB.out))) : w.heap.size ≤ gb993)); have n5_ := Aside0.mk ((by rw [hg]; exact Nat.ne_of_lt (blk_lt (g := gb992) (o := .cells #[.slice A0_0 l0_0.length c0_0, .int .i64 a0_1, .int .i64 a0_2, .slice A0_3 l0_3.length c0_3] 30 (0, 0)) (by (with_reducible repeat (first | refine blk_drewN ?_ _ | refine blk_drew ?_ | refine blk_alloc ?_ _)); exact BK992.out)) : gb992 ≠ gb993)); have n6_ := Aside0.mk ((by rw [hg]; exact Nat.ne_of_gt (blk_lt (g := gb992) (o := .cells #[.slice A0_0 l0_0.length c0_0, .int .i64 a0_1, .int .i64 a0_2, .slice A0_3 l0_3.length c0_3] 30 (0, 0)) (by (with_reducible repeat (first | refine blk_drewN ?_ _ | refine blk_drew ?_ | refine blk_alloc ?_ _)); exact BK992.out)) : gb993 ≠ gb992)); clear BK992; clear HB; have BK992 := n0_; have HB := n1_; have BK993 := n2_; have GW993 := n3_; have GE993 := n4_; have NB992_993 := n5_; have NB993_992 := n6_; clear n0_ n1_ n2_ n3_ n4_ n5_ n6_; clear hb hbox hg; have hnb31 := NB992_993.out; have hnc31 := NB993_992.out; have hcz32_0 : w30.cell? ⟨gb992, 0, none⟩ = some (.slice A0_0 l0_0.length c0_0) := (blk_cell BK992.out 0).trans rfl; have hcz32_1 : w30.cell? ⟨gb992, 1, none⟩ = some (.int .i64 a0_1) := (blk_cell BK992.out 1).trans rfl; have hcz32_2 : w30.cell? ⟨gb992, 2, none⟩ = some (.int .i64 a0_2) := (blk_cell BK992.out 2).trans rfl; have hcz32_3 : w30.cell? ⟨gb992, 3, none⟩ = some (.slice A0_3 l0_3.length c0_3) := (blk_cell BK992.out 3).trans rfl; have hfz32_0 := blk_frozen BK992.out 0; have hfz32_1 := blk_frozen BK992.out 1; have hfz32_2 := blk_frozen BK992.out 2; have hfz32_3 := blk_frozen BK992.out 3; have hcz33_0 : w30.cell? ⟨gb993, 0, none⟩ = some (.slice A1_0 l1_0.length c1_0) := (blk_cell BK993.out 0).trans rfl; have hcz33_1 : w30.cell? ⟨gb993, 1, none⟩ = some (.int .i64 a1_1) := (blk_cell BK993.out 1).trans rfl; have hcz33_2 : w30.cell? ⟨gb993, 2, none⟩ = some (.int .i64 a1_2) := (blk_cell BK993.out 2).trans rfl; have hcz33_3 : w30.cell? ⟨gb993, 3, none⟩ = some (.slice A1_3 l1_3.length c1_3) := (blk_cell BK993.out 3).trans rfl; have hfz33_0 := blk_frozen BK993.out 0; have hfz33_1 := blk_frozen BK993.out 1; have hfz33_2 := blk_frozen BK993.out 2; have hfz33_3 := blk_frozen BK993.out 3) | ((with_reducible refine gate_callee (f := 31) rfl ?_); refine goesL_ (some 9) rfl rfl Try.func31 (by kernel_rfl) rfl #[.slice A0_0 l0_0.length c0_0, .slice A1_0 l1_0.length c1_0] rfl (by (try simp only [List.map_toArray, List.map_cons, List.map_nil]); first | done | rfl | (simp only [List.length_drop, List.length_take]; rfl)) ?_; (with_reducible refine (laws_eqObjS.calls _ _ l0_0 _ _ l1_0 false _ ?side1 ?side2 ?side3 ?side4 A3.out).mono ?_); (case side1 => repeat (first | exact (Kd.C_below HR0_0.out HB.out) | (with_reducible refine Kd.C_alloc ?_ _) | (with_reducible refine Kd.C_drewN ?_ _) | (with_reducible refine Kd.C_drew ?_))); (case side2 => exact HC0_0.out); (case side3 => repeat (first | exact (Kd.C_below HR1_0.out HB.out) | (with_reducible refine Kd.C_alloc ?_ _) | (with_reducible refine Kd.C_drewN ?_ _) | (with_reducible refine Kd.C_drew ?_))); (case side4 => exact HC1_0.out); rintro e w' ⟨rfl, ⟨nd, rfl⟩⟩; refine ⟨_, rfl, ?_⟩))
    go_ret
    exact ⟨by first | rfl | (simp [errW_none, errW_some] <;> rfl) | (simp [*, errW_none, errW_some] <;> rfl), by repeat (first | (with_reducible first | exact HB.out | apply below_alloc | apply pw_below_drewN | apply below_drew1 | refine below_set ?_ GE992.out | refine below_set ?_ GE993.out) | exact HB.out)⟩

end Go.Proofs.Ytmoiacijklkfaaa.G

/- G32 -/
-- Laid by wip/g/gprint.py out of the translation, by the kit's print program. Lean checks it.
namespace Go.Proofs.Ytmoiacijklkfaaa.G
open Go.RowKit Go.Proofs.YtmoiacijklkfaaaW.PrintWords Go.Proofs.YtmoiacijklkfaaaW.PrintLast Go.Proofs.YtmoiacijklkfaaaW.PrintMore
attribute [local go_sem] max2_int min2_int max_two min_two max_three min_three max_four min_four   -- for this text's walks alone
set_option linter.unusedVariables false
set_option linter.unusedSimpArgs false

/-! ### laws_markObjS: function 32 -/
--IMPORT Derived.Test.YtmoiacijklkfaaaGKit
def laws_markObjS.f (l0 : List S46) (a1 : Int) : Option Int := if l0.length = 0 then some a1 else none
set_option maxHeartbeats 1000000 in
set_option maxRecDepth 100000 in
theorem laws_markObjS.calls (A0 : Option Addr) (c0 : Nat) (l0 : List (S46)) (a1 : Int) (r : Int) (w : World) (hr0 : Kd.C k46 w A0 l0.length l0) (hc0 : l0.length ≤ c0) (h : laws_markObjS.f l0 a1 = some r) :
    Calls Try.prog 32 #[.slice A0 l0.length c0, .int .i64 a1] w fun e w' => e = .returned (.int .i64 r) ∧ Drawn0 w w' := by
  unfold laws_markObjS.f at h
  by_cases hl : l0.length = 0
  · rw [if_pos hl] at h
    obtain rfl := Option.some.inj h
    obtain rfl := List.eq_nil_of_length_eq_zero hl
    clear h hl hr0
    go_enter Try.func32, Try.ntmps32
    go_wp2
    go_loopw [1, 5] (fun v i wr => v = .int .i64 a1 ∧ i = .int .i64 0 ∧ Hid (Drawn0 w wr)) (fun _ _ _ => 0)
    case atStart => exact ⟨rfl, rfl, Drawn0.refl _⟩
    case round =>
      obtain ⟨rfl, rfl, HD⟩ := hrel
      go_wp2
      go_ret
      exact ⟨rfl, HD.out⟩
  · rw [if_neg hl] at h
    cases h

end Go.Proofs.Ytmoiacijklkfaaa.G

/- G66 -/
-- Laid by wip/g/gprint.py out of the translation, by the kit's print program. Lean checks it.
namespace Go.Proofs.Ytmoiacijklkfaaa.G
open Go.RowKit Go.Proofs.YtmoiacijklkfaaaW.PrintWords Go.Proofs.YtmoiacijklkfaaaW.PrintLast Go.Proofs.YtmoiacijklkfaaaW.PrintMore
attribute [local go_sem] max2_int min2_int max_two min_two max_three min_three max_four min_four   -- for this text's walks alone
set_option linter.unusedVariables false
set_option linter.unusedSimpArgs false

/-! ### laws_markChangeS: function 66 -/
--IMPORT Derived.Test.YtmoiacijklkfaaaGKit
def laws_markChangeS.f (l0 : List S90) (a1 : Int) : Option Int := if l0.length = 0 then some a1 else none
set_option maxHeartbeats 1000000 in
set_option maxRecDepth 100000 in
theorem laws_markChangeS.calls (A0 : Option Addr) (c0 : Nat) (l0 : List (S90)) (a1 : Int) (r : Int) (w : World) (hr0 : Kd.C k90 w A0 l0.length l0) (hc0 : l0.length ≤ c0) (h : laws_markChangeS.f l0 a1 = some r) :
    Calls Try.prog 66 #[.slice A0 l0.length c0, .int .i64 a1] w fun e w' => e = .returned (.int .i64 r) ∧ Drawn0 w w' := by
  unfold laws_markChangeS.f at h
  by_cases hl : l0.length = 0
  · rw [if_pos hl] at h
    obtain rfl := Option.some.inj h
    obtain rfl := List.eq_nil_of_length_eq_zero hl
    clear h hl hr0
    go_enter Try.func66, Try.ntmps66
    go_wp2
    go_loopw [1, 5] (fun v i wr => v = .int .i64 a1 ∧ i = .int .i64 0 ∧ Hid (Drawn0 w wr)) (fun _ _ _ => 0)
    case atStart => exact ⟨rfl, rfl, Drawn0.refl _⟩
    case round =>
      obtain ⟨rfl, rfl, HD⟩ := hrel
      go_wp2
      go_ret
      exact ⟨rfl, HD.out⟩
  · rw [if_neg hl] at h
    cases h

end Go.Proofs.Ytmoiacijklkfaaa.G

/- G18 -/
-- Laid by wip/g/gprint.py out of the translation, by the kit's print program. Lean checks it.
namespace Go.Proofs.Ytmoiacijklkfaaa.G
open Go.RowKit Go.Proofs.YtmoiacijklkfaaaW.PrintWords Go.Proofs.YtmoiacijklkfaaaW.PrintLast Go.Proofs.YtmoiacijklkfaaaW.PrintMore
attribute [local go_sem] max2_int min2_int max_two min_two max_three min_three max_four min_four   -- for this text's walks alone
set_option linter.unusedVariables false
set_option linter.unusedSimpArgs false

/-! ### laws_markBase: function 18 -/
def laws_markBase.f (l0_0 : List (S46)) (a0_1 : Int) (a0_2 : Int) (l0_3 : List (S90)) (a1 : Int) : Option (Int) := (laws_markObjS.f l0_0 a1).bind fun t1002 => ((laws_markChangeS.f l0_3 t1002).bind fun t1003 => (some t1003))
set_option maxHeartbeats 8000000 in
set_option maxRecDepth 100000 in
theorem laws_markBase.calls (A0_0 : Option Addr) (c0_0 : Nat) (l0_0 : List (S46)) (a0_1 : Int) (a0_2 : Int) (A0_3 : Option Addr) (c0_3 : Nat) (l0_3 : List (S90)) (a1 : Int) (r : Int) (w : World) (hr0_0 : Kd.C k46 w A0_0 l0_0.length l0_0) (hc0_0 : l0_0.length ≤ c0_0) (hr0_3 : Kd.C k90 w A0_3 l0_3.length l0_3) (hc0_3 : l0_3.length ≤ c0_3) (h : laws_markBase.f l0_0 a0_1 a0_2 l0_3 a1 = some r) :
    Calls Try.prog 18 #[.agg #[.slice A0_0 l0_0.length c0_0, .int .i64 a0_1, .int .i64 a0_2, .slice A0_3 l0_3.length c0_3], .int .i64 a1] w fun e w' => e = .returned (.int .i64 r) ∧ Below w.heap.size w w' := by
  have hu30 := Try.underlying30
  have HR0_0 := Aside0.mk hr0_0
  have HC0_0 := Aside0.mk hc0_0
  clear hr0_0 hc0_0
  have HR0_3 := Aside0.mk hr0_3
  have HC0_3 := Aside0.mk hc0_3
  clear hr0_3 hc0_3
  have HB := Aside0.mk (Below.refl w.heap.size w)
  have H : ((laws_markObjS.f l0_0 a1).bind fun t1002 => ((laws_markChangeS.f l0_3 t1002).bind fun t1003 => (some t1003))) = some r := h
  clear h
  replace H := Option.bind_eq_some_iff.mp H
  obtain ⟨t1002, A30, H⟩ := H
  replace H : ((laws_markChangeS.f l0_3 t1002).bind fun t1003 => (some t1003)) = some r := H
  have A3 := Aside0.mk A30
  clear A30
  replace H := Option.bind_eq_some_iff.mp H
  obtain ⟨t1003, A40, H⟩ := H
  replace H : (some t1003) = some r := H
  have A4 := Aside0.mk A40
  clear A40
  obtain rfl := Option.some.inj H
  go_enter Try.func18, Try.ntmps18
  go_wp2_with (first | ((with_reducible refine gate_dst (N := 2) rfl ?_); refine box_event ?hg (N := 2) ?hd (cs := #[.slice A0_0 l0_0.length c0_0, .int .i64 a0_1, .int .i64 a0_2, .slice A0_3 l0_3.length c0_3]) (t := 30) ?hr ?_; (case hd => rfl); (case hg => rfl); (case hr => first | (go_simp; done) | (go_simp; rfl)); intro gb1001 hg w5 hbox hb; have n0_ := Aside0.mk (below_step (by repeat (first | (with_reducible first | exact HB.out | apply below_alloc | apply pw_below_drewN | apply below_drew1) | exact HB.out)) hb); have n1_ := Aside0.mk (hbox); have n2_ := Aside0.mk ((by rw [hg]; exact (below_size (by repeat (first | (with_reducible first | exact HB.out | apply below_alloc | apply pw_below_drewN | apply below_drew1) | exact HB.out))) : w.heap.size ≤ gb1001)); have n3_ := Aside0.mk ((by rw [hg]; exact (below_size (by repeat (first | (with_reducible first | exact HB.out | apply below_alloc | apply pw_below_drewN | apply below_drew1) | exact HB.out))) : w.heap.size ≤ gb1001)); clear HB; have HB := n0_; have BK1001 := n1_; have GW1001 := n2_; have GE1001 := n3_; clear n0_ n1_ n2_ n3_; clear hb hbox hg; have hcz6_0 : w5.cell? ⟨gb1001, 0, none⟩ = some (.slice A0_0 l0_0.length c0_0) := (blk_cell BK1001.out 0).trans rfl; have hcz6_1 : w5.cell? ⟨gb1001, 1, none⟩ = some (.int .i64 a0_1) := (blk_cell BK1001.out 1).trans rfl; have hcz6_2 : w5.cell? ⟨gb1001, 2, none⟩ = some (.int .i64 a0_2) := (blk_cell BK1001.out 2).trans rfl; have hcz6_3 : w5.cell? ⟨gb1001, 3, none⟩ = some (.slice A0_3 l0_3.length c0_3) := (blk_cell BK1001.out 3).trans rfl; have hfz6_0 := blk_frozen BK1001.out 0; have hfz6_1 := blk_frozen BK1001.out 1; have hfz6_2 := blk_frozen BK1001.out 2; have hfz6_3 := blk_frozen BK1001.out 3) | ((with_reducible refine gate_callee (f := 32) rfl ?_); refine goesL_ (some 8) rfl rfl Try.func32 (by kernel_rfl) rfl #[.slice A0_0 l0_0.length c0_0, .int .i64 a1] rfl (by (try simp only [List.map_toArray, List.map_cons, List.map_nil]); first | done | rfl | (simp only [List.length_drop, List.length_take]; rfl)) ?_; (with_reducible refine (laws_markObjS.calls _ _ l0_0 a1 t1002 _ ?side1 ?side2 A3.out).mono ?_); (case side1 => repeat (first | exact (Kd.C_below HR0_0.out HB.out) | (with_reducible refine Kd.C_alloc ?_ _) | (with_reducible refine Kd.C_drewN ?_ _) | (with_reducible refine Kd.C_drew ?_))); (case side2 => exact HC0_0.out); rintro e w' ⟨rfl, ⟨nd, rfl⟩⟩; refine ⟨_, rfl, ?_⟩) | ((with_reducible refine gate_callee (f := 66) rfl ?_); refine goesL_ (some 12) rfl rfl Try.func66 (by kernel_rfl) rfl #[.slice A0_3 l0_3.length c0_3, .int .i64 t1002] rfl (by (try simp only [List.map_toArray, List.map_cons, List.map_nil]); first | done | rfl | (simp only [List.length_drop, List.length_take]; rfl)) ?_; (with_reducible refine (laws_markChangeS.calls _ _ l0_3 t1002 t1003 _ ?side1 ?side2 A4.out).mono ?_); (case side1 => repeat (first | exact (Kd.C_below HR0_3.out (by repeat (first | (with_reducible first | exact HB.out | apply below_alloc | apply pw_below_drewN | apply below_drew1 | refine below_set ?_ GE1001.out) | exact HB.out))) | (with_reducible refine Kd.C_alloc ?_ _) | (with_reducible refine Kd.C_drewN ?_ _) | (with_reducible refine Kd.C_drew ?_))); (case side2 => exact HC0_3.out); rintro e w' ⟨rfl, ⟨nd, rfl⟩⟩; refine ⟨_, rfl, ?_⟩))
  go_ret
  exact ⟨by first | rfl | (simp [errW_none, errW_some] <;> rfl) | (simp [*, errW_none, errW_some] <;> rfl), by repeat (first | (with_reducible first | exact HB.out | apply below_alloc | apply pw_below_drewN | apply below_drew1 | refine below_set ?_ GE1001.out) | exact HB.out)⟩

end Go.Proofs.Ytmoiacijklkfaaa.G

/- G33 -/
-- Laid by wip/g/gprint.py out of the translation, by the kit's print program. Lean checks it.
namespace Go.Proofs.Ytmoiacijklkfaaa.G
open Go.RowKit Go.Proofs.YtmoiacijklkfaaaW.PrintWords Go.Proofs.YtmoiacijklkfaaaW.PrintLast Go.Proofs.YtmoiacijklkfaaaW.PrintMore
attribute [local go_sem] max2_int min2_int max_two min_two max_three min_three max_four min_four   -- for this text's walks alone
set_option linter.unusedVariables false
set_option linter.unusedSimpArgs false

/-! ### laws_heldObjS: function 33 -/
--IMPORT Derived.Test.YtmoiacijklkfaaaGKit
def laws_heldObjS.f (l0 : List S46) (a1 : Int) : Option Int := if l0.length = 0 then some a1 else none
set_option maxHeartbeats 1000000 in
set_option maxRecDepth 100000 in
theorem laws_heldObjS.calls (A0 : Option Addr) (c0 : Nat) (l0 : List (S46)) (a1 : Int) (r : Int) (w : World) (hr0 : Kd.C k46 w A0 l0.length l0) (hc0 : l0.length ≤ c0) (h : laws_heldObjS.f l0 a1 = some r) :
    Calls Try.prog 33 #[.slice A0 l0.length c0, .int .i64 a1] w fun e w' => e = .returned (.int .i64 r) ∧ Drawn0 w w' := by
  unfold laws_heldObjS.f at h
  by_cases hl : l0.length = 0
  · rw [if_pos hl] at h
    obtain rfl := Option.some.inj h
    obtain rfl := List.eq_nil_of_length_eq_zero hl
    clear h hl hr0
    go_enter Try.func33, Try.ntmps33
    go_wp2
    go_loopw [1, 5] (fun v i wr => v = .int .i64 a1 ∧ i = .int .i64 0 ∧ Hid (Drawn0 w wr)) (fun _ _ _ => 0)
    case atStart => exact ⟨rfl, rfl, Drawn0.refl _⟩
    case round =>
      obtain ⟨rfl, rfl, HD⟩ := hrel
      go_wp2
      go_ret
      exact ⟨rfl, HD.out⟩
  · rw [if_neg hl] at h
    cases h

end Go.Proofs.Ytmoiacijklkfaaa.G

/- G67 -/
-- Laid by wip/g/gprint.py out of the translation, by the kit's print program. Lean checks it.
namespace Go.Proofs.Ytmoiacijklkfaaa.G
open Go.RowKit Go.Proofs.YtmoiacijklkfaaaW.PrintWords Go.Proofs.YtmoiacijklkfaaaW.PrintLast Go.Proofs.YtmoiacijklkfaaaW.PrintMore
attribute [local go_sem] max2_int min2_int max_two min_two max_three min_three max_four min_four   -- for this text's walks alone
set_option linter.unusedVariables false
set_option linter.unusedSimpArgs false

/-! ### laws_heldChangeS: function 67 -/
--IMPORT Derived.Test.YtmoiacijklkfaaaGKit
def laws_heldChangeS.f (l0 : List S90) (a1 : Int) : Option Int := if l0.length = 0 then some a1 else none
set_option maxHeartbeats 1000000 in
set_option maxRecDepth 100000 in
theorem laws_heldChangeS.calls (A0 : Option Addr) (c0 : Nat) (l0 : List (S90)) (a1 : Int) (r : Int) (w : World) (hr0 : Kd.C k90 w A0 l0.length l0) (hc0 : l0.length ≤ c0) (h : laws_heldChangeS.f l0 a1 = some r) :
    Calls Try.prog 67 #[.slice A0 l0.length c0, .int .i64 a1] w fun e w' => e = .returned (.int .i64 r) ∧ Drawn0 w w' := by
  unfold laws_heldChangeS.f at h
  by_cases hl : l0.length = 0
  · rw [if_pos hl] at h
    obtain rfl := Option.some.inj h
    obtain rfl := List.eq_nil_of_length_eq_zero hl
    clear h hl hr0
    go_enter Try.func67, Try.ntmps67
    go_wp2
    go_loopw [1, 5] (fun v i wr => v = .int .i64 a1 ∧ i = .int .i64 0 ∧ Hid (Drawn0 w wr)) (fun _ _ _ => 0)
    case atStart => exact ⟨rfl, rfl, Drawn0.refl _⟩
    case round =>
      obtain ⟨rfl, rfl, HD⟩ := hrel
      go_wp2
      go_ret
      exact ⟨rfl, HD.out⟩
  · rw [if_neg hl] at h
    cases h

end Go.Proofs.Ytmoiacijklkfaaa.G

/- G19 -/
-- Laid by wip/g/gprint.py out of the translation, by the kit's print program. Lean checks it.
namespace Go.Proofs.Ytmoiacijklkfaaa.G
open Go.RowKit Go.Proofs.YtmoiacijklkfaaaW.PrintWords Go.Proofs.YtmoiacijklkfaaaW.PrintLast Go.Proofs.YtmoiacijklkfaaaW.PrintMore
attribute [local go_sem] max2_int min2_int max_two min_two max_three min_three max_four min_four   -- for this text's walks alone
set_option linter.unusedVariables false
set_option linter.unusedSimpArgs false

/-! ### laws_heldBase: function 19 -/
def laws_heldBase.f (l0_0 : List (S46)) (a0_1 : Int) (a0_2 : Int) (l0_3 : List (S90)) (a1 : Int) : Option (Int) := (laws_heldObjS.f l0_0 a1).bind fun t1015 => (if t1015 < 0 then (some (-1)) else ((laws_heldChangeS.f l0_3 t1015).bind fun t1016 => (if t1016 < 0 then (some (-1)) else (some t1016))))
set_option maxHeartbeats 8000000 in
set_option maxRecDepth 100000 in
theorem laws_heldBase.calls (A0_0 : Option Addr) (c0_0 : Nat) (l0_0 : List (S46)) (a0_1 : Int) (a0_2 : Int) (A0_3 : Option Addr) (c0_3 : Nat) (l0_3 : List (S90)) (a1 : Int) (r : Int) (w : World) (hr0_0 : Kd.C k46 w A0_0 l0_0.length l0_0) (hc0_0 : l0_0.length ≤ c0_0) (hr0_3 : Kd.C k90 w A0_3 l0_3.length l0_3) (hc0_3 : l0_3.length ≤ c0_3) (h : laws_heldBase.f l0_0 a0_1 a0_2 l0_3 a1 = some r) :
    Calls Try.prog 19 #[.agg #[.slice A0_0 l0_0.length c0_0, .int .i64 a0_1, .int .i64 a0_2, .slice A0_3 l0_3.length c0_3], .int .i64 a1] w fun e w' => e = .returned (.int .i64 r) ∧ Below w.heap.size w w' := by
  have hu30 := Try.underlying30
  have HR0_0 := Aside0.mk hr0_0
  have HC0_0 := Aside0.mk hc0_0
  clear hr0_0 hc0_0
  have HR0_3 := Aside0.mk hr0_3
  have HC0_3 := Aside0.mk hc0_3
  clear hr0_3 hc0_3
  have HB := Aside0.mk (Below.refl w.heap.size w)
  have H : ((laws_heldObjS.f l0_0 a1).bind fun t1015 => (if t1015 < 0 then (some (-1)) else ((laws_heldChangeS.f l0_3 t1015).bind fun t1016 => (if t1016 < 0 then (some (-1)) else (some t1016))))) = some r := h
  clear h
  replace H := Option.bind_eq_some_iff.mp H
  obtain ⟨t1015, A30, H⟩ := H
  replace H : (if t1015 < 0 then (some (-1)) else ((laws_heldChangeS.f l0_3 t1015).bind fun t1016 => (if t1016 < 0 then (some (-1)) else (some t1016)))) = some r := H
  have A3 := Aside0.mk A30
  clear A30
  by_cases c4 : t1015 < 0
  · rw [if_pos c4] at H
    have c4b0 : decide (t1015 < 0) = true := decide_eq_true c4
    clear c4
    obtain rfl := Option.some.inj H
    go_enter Try.func19, Try.ntmps19
    go_wp2_with (first | ((with_reducible refine gate_dst (N := 2) rfl ?_); refine box_event ?hg (N := 2) ?hd (cs := #[.slice A0_0 l0_0.length c0_0, .int .i64 a0_1, .int .i64 a0_2, .slice A0_3 l0_3.length c0_3]) (t := 30) ?hr ?_; (case hd => rfl); (case hg => rfl); (case hr => first | (go_simp; done) | (go_simp; rfl)); intro gb1014 hg w5 hbox hb; have n0_ := Aside0.mk (below_step (by repeat (first | (with_reducible first | exact HB.out | apply below_alloc | apply pw_below_drewN | apply below_drew1) | exact HB.out)) hb); have n1_ := Aside0.mk (hbox); have n2_ := Aside0.mk ((by rw [hg]; exact (below_size (by repeat (first | (with_reducible first | exact HB.out | apply below_alloc | apply pw_below_drewN | apply below_drew1) | exact HB.out))) : w.heap.size ≤ gb1014)); have n3_ := Aside0.mk ((by rw [hg]; exact (below_size (by repeat (first | (with_reducible first | exact HB.out | apply below_alloc | apply pw_below_drewN | apply below_drew1) | exact HB.out))) : w.heap.size ≤ gb1014)); clear HB; have HB := n0_; have BK1014 := n1_; have GW1014 := n2_; have GE1014 := n3_; clear n0_ n1_ n2_ n3_; clear hb hbox hg; have hcz6_0 : w5.cell? ⟨gb1014, 0, none⟩ = some (.slice A0_0 l0_0.length c0_0) := (blk_cell BK1014.out 0).trans rfl; have hcz6_1 : w5.cell? ⟨gb1014, 1, none⟩ = some (.int .i64 a0_1) := (blk_cell BK1014.out 1).trans rfl; have hcz6_2 : w5.cell? ⟨gb1014, 2, none⟩ = some (.int .i64 a0_2) := (blk_cell BK1014.out 2).trans rfl; have hcz6_3 : w5.cell? ⟨gb1014, 3, none⟩ = some (.slice A0_3 l0_3.length c0_3) := (blk_cell BK1014.out 3).trans rfl; have hfz6_0 := blk_frozen BK1014.out 0; have hfz6_1 := blk_frozen BK1014.out 1; have hfz6_2 := blk_frozen BK1014.out 2; have hfz6_3 := blk_frozen BK1014.out 3) | ((with_reducible refine gate_callee (f := 33) rfl ?_); refine goesL_ (some 8) rfl rfl Try.func33 (by kernel_rfl) rfl #[.slice A0_0 l0_0.length c0_0, .int .i64 a1] rfl (by (try simp only [List.map_toArray, List.map_cons, List.map_nil]); first | done | rfl | (simp only [List.length_drop, List.length_take]; rfl)) ?_; (with_reducible refine (laws_heldObjS.calls _ _ l0_0 a1 t1015 _ ?side1 ?side2 A3.out).mono ?_); (case side1 => repeat (first | exact (Kd.C_below HR0_0.out HB.out) | (with_reducible refine Kd.C_alloc ?_ _) | (with_reducible refine Kd.C_drewN ?_ _) | (with_reducible refine Kd.C_drew ?_))); (case side2 => exact HC0_0.out); rintro e w' ⟨rfl, ⟨nd, rfl⟩⟩; refine ⟨_, rfl, ?_⟩))
    go_ret
    exact ⟨by first | rfl | (simp [errW_none, errW_some] <;> rfl) | (simp [*, errW_none, errW_some] <;> rfl), by repeat (first | (with_reducible first | exact HB.out | apply below_alloc | apply pw_below_drewN | apply below_drew1 | refine below_set ?_ GE1014.out) | exact HB.out)⟩
  · rw [if_neg c4] at H
    have c4b0 : decide (t1015 < 0) = false := decide_eq_false c4
    clear c4
    replace H := Option.bind_eq_some_iff.mp H
    obtain ⟨t1016, A70, H⟩ := H
    replace H : (if t1016 < 0 then (some (-1)) else (some t1016)) = some r := H
    have A7 := Aside0.mk A70
    clear A70
    by_cases c8 : t1016 < 0
    · rw [if_pos c8] at H
      have c8b0 : decide (t1016 < 0) = true := decide_eq_true c8
      clear c8
      obtain rfl := Option.some.inj H
      go_enter Try.func19, Try.ntmps19
      go_wp2_with (first | ((with_reducible refine gate_dst (N := 2) rfl ?_); refine box_event ?hg (N := 2) ?hd (cs := #[.slice A0_0 l0_0.length c0_0, .int .i64 a0_1, .int .i64 a0_2, .slice A0_3 l0_3.length c0_3]) (t := 30) ?hr ?_; (case hd => rfl); (case hg => rfl); (case hr => first | (go_simp; done) | (go_simp; rfl)); intro gb1014 hg w9 hbox hb; have n0_ := Aside0.mk (below_step (by repeat (first | (with_reducible first | exact HB.out | apply below_alloc | apply pw_below_drewN | apply below_drew1) | exact HB.out)) hb); have n1_ := Aside0.mk (hbox); have n2_ := Aside0.mk ((by rw [hg]; exact (below_size (by repeat (first | (with_reducible first | exact HB.out | apply below_alloc | apply pw_below_drewN | apply below_drew1) | exact HB.out))) : w.heap.size ≤ gb1014)); have n3_ := Aside0.mk ((by rw [hg]; exact (below_size (by repeat (first | (with_reducible first | exact HB.out | apply below_alloc | apply pw_below_drewN | apply below_drew1) | exact HB.out))) : w.heap.size ≤ gb1014)); clear HB; have HB := n0_; have BK1014 := n1_; have GW1014 := n2_; have GE1014 := n3_; clear n0_ n1_ n2_ n3_; clear hb hbox hg; have hcz10_0 : w9.cell? ⟨gb1014, 0, none⟩ = some (.slice A0_0 l0_0.length c0_0) := (blk_cell BK1014.out 0).trans rfl; have hcz10_1 : w9.cell? ⟨gb1014, 1, none⟩ = some (.int .i64 a0_1) := (blk_cell BK1014.out 1).trans rfl; have hcz10_2 : w9.cell? ⟨gb1014, 2, none⟩ = some (.int .i64 a0_2) := (blk_cell BK1014.out 2).trans rfl; have hcz10_3 : w9.cell? ⟨gb1014, 3, none⟩ = some (.slice A0_3 l0_3.length c0_3) := (blk_cell BK1014.out 3).trans rfl; have hfz10_0 := blk_frozen BK1014.out 0; have hfz10_1 := blk_frozen BK1014.out 1; have hfz10_2 := blk_frozen BK1014.out 2; have hfz10_3 := blk_frozen BK1014.out 3) | ((with_reducible refine gate_callee (f := 33) rfl ?_); refine goesL_ (some 8) rfl rfl Try.func33 (by kernel_rfl) rfl #[.slice A0_0 l0_0.length c0_0, .int .i64 a1] rfl (by (try simp only [List.map_toArray, List.map_cons, List.map_nil]); first | done | rfl | (simp only [List.length_drop, List.length_take]; rfl)) ?_; (with_reducible refine (laws_heldObjS.calls _ _ l0_0 a1 t1015 _ ?side1 ?side2 A3.out).mono ?_); (case side1 => repeat (first | exact (Kd.C_below HR0_0.out HB.out) | (with_reducible refine Kd.C_alloc ?_ _) | (with_reducible refine Kd.C_drewN ?_ _) | (with_reducible refine Kd.C_drew ?_))); (case side2 => exact HC0_0.out); rintro e w' ⟨rfl, ⟨nd, rfl⟩⟩; refine ⟨_, rfl, ?_⟩) | ((with_reducible refine gate_callee (f := 67) rfl ?_); refine goesL_ (some 14) rfl rfl Try.func67 (by kernel_rfl) rfl #[.slice A0_3 l0_3.length c0_3, .int .i64 t1015] rfl (by (try simp only [List.map_toArray, List.map_cons, List.map_nil]); first | done | rfl | (simp only [List.length_drop, List.length_take]; rfl)) ?_; (with_reducible refine (laws_heldChangeS.calls _ _ l0_3 t1015 t1016 _ ?side1 ?side2 A7.out).mono ?_); (case side1 => repeat (first | exact (Kd.C_below HR0_3.out (by repeat (first | (with_reducible first | exact HB.out | apply below_alloc | apply pw_below_drewN | apply below_drew1 | refine below_set ?_ GE1014.out) | exact HB.out))) | (with_reducible refine Kd.C_alloc ?_ _) | (with_reducible refine Kd.C_drewN ?_ _) | (with_reducible refine Kd.C_drew ?_))); (case side2 => exact HC0_3.out); rintro e w' ⟨rfl, ⟨nd, rfl⟩⟩; refine ⟨_, rfl, ?_⟩))
      go_ret
      exact ⟨by first | rfl | (simp [errW_none, errW_some] <;> rfl) | (simp [*, errW_none, errW_some] <;> rfl), by repeat (first | (with_reducible first | exact HB.out | apply below_alloc | apply pw_below_drewN | apply below_drew1 | refine below_set ?_ GE1014.out) | exact HB.out)⟩
    · rw [if_neg c8] at H
      have c8b0 : decide (t1016 < 0) = false := decide_eq_false c8
      clear c8
      obtain rfl := Option.some.inj H
      go_enter Try.func19, Try.ntmps19
      go_wp2_with (first | ((with_reducible refine gate_dst (N := 2) rfl ?_); refine box_event ?hg (N := 2) ?hd (cs := #[.slice A0_0 l0_0.length c0_0, .int .i64 a0_1, .int .i64 a0_2, .slice A0_3 l0_3.length c0_3]) (t := 30) ?hr ?_; (case hd => rfl); (case hg => rfl); (case hr => first | (go_simp; done) | (go_simp; rfl)); intro gb1014 hg w11 hbox hb; have n0_ := Aside0.mk (below_step (by repeat (first | (with_reducible first | exact HB.out | apply below_alloc | apply pw_below_drewN | apply below_drew1) | exact HB.out)) hb); have n1_ := Aside0.mk (hbox); have n2_ := Aside0.mk ((by rw [hg]; exact (below_size (by repeat (first | (with_reducible first | exact HB.out | apply below_alloc | apply pw_below_drewN | apply below_drew1) | exact HB.out))) : w.heap.size ≤ gb1014)); have n3_ := Aside0.mk ((by rw [hg]; exact (below_size (by repeat (first | (with_reducible first | exact HB.out | apply below_alloc | apply pw_below_drewN | apply below_drew1) | exact HB.out))) : w.heap.size ≤ gb1014)); clear HB; have HB := n0_; have BK1014 := n1_; have GW1014 := n2_; have GE1014 := n3_; clear n0_ n1_ n2_ n3_; clear hb hbox hg; have hcz12_0 : w11.cell? ⟨gb1014, 0, none⟩ = some (.slice A0_0 l0_0.length c0_0) := (blk_cell BK1014.out 0).trans rfl; have hcz12_1 : w11.cell? ⟨gb1014, 1, none⟩ = some (.int .i64 a0_1) := (blk_cell BK1014.out 1).trans rfl; have hcz12_2 : w11.cell? ⟨gb1014, 2, none⟩ = some (.int .i64 a0_2) := (blk_cell BK1014.out 2).trans rfl; have hcz12_3 : w11.cell? ⟨gb1014, 3, none⟩ = some (.slice A0_3 l0_3.length c0_3) := (blk_cell BK1014.out 3).trans rfl; have hfz12_0 := blk_frozen BK1014.out 0; have hfz12_1 := blk_frozen BK1014.out 1; have hfz12_2 := blk_frozen BK1014.out 2; have hfz12_3 := blk_frozen BK1014.out 3) | ((with_reducible refine gate_callee (f := 33) rfl ?_); refine goesL_ (some 8) rfl rfl Try.func33 (by kernel_rfl) rfl #[.slice A0_0 l0_0.length c0_0, .int .i64 a1] rfl (by (try simp only [List.map_toArray, List.map_cons, List.map_nil]); first | done | rfl | (simp only [List.length_drop, List.length_take]; rfl)) ?_; (with_reducible refine (laws_heldObjS.calls _ _ l0_0 a1 t1015 _ ?side1 ?side2 A3.out).mono ?_); (case side1 => repeat (first | exact (Kd.C_below HR0_0.out HB.out) | (with_reducible refine Kd.C_alloc ?_ _) | (with_reducible refine Kd.C_drewN ?_ _) | (with_reducible refine Kd.C_drew ?_))); (case side2 => exact HC0_0.out); rintro e w' ⟨rfl, ⟨nd, rfl⟩⟩; refine ⟨_, rfl, ?_⟩) | ((with_reducible refine gate_callee (f := 67) rfl ?_); refine goesL_ (some 14) rfl rfl Try.func67 (by kernel_rfl) rfl #[.slice A0_3 l0_3.length c0_3, .int .i64 t1015] rfl (by (try simp only [List.map_toArray, List.map_cons, List.map_nil]); first | done | rfl | (simp only [List.length_drop, List.length_take]; rfl)) ?_; (with_reducible refine (laws_heldChangeS.calls _ _ l0_3 t1015 t1016 _ ?side1 ?side2 A7.out).mono ?_); (case side1 => repeat (first | exact (Kd.C_below HR0_3.out (by repeat (first | (with_reducible first | exact HB.out | apply below_alloc | apply pw_below_drewN | apply below_drew1 | refine below_set ?_ GE1014.out) | exact HB.out))) | (with_reducible refine Kd.C_alloc ?_ _) | (with_reducible refine Kd.C_drewN ?_ _) | (with_reducible refine Kd.C_drew ?_))); (case side2 => exact HC0_3.out); rintro e w' ⟨rfl, ⟨nd, rfl⟩⟩; refine ⟨_, rfl, ?_⟩))
      go_ret
      exact ⟨by first | rfl | (simp [errW_none, errW_some] <;> rfl) | (simp [*, errW_none, errW_some] <;> rfl), by repeat (first | (with_reducible first | exact HB.out | apply below_alloc | apply pw_below_drewN | apply below_drew1 | refine below_set ?_ GE1014.out) | exact HB.out)⟩

end Go.Proofs.Ytmoiacijklkfaaa.G

/- G20 -/
-- Laid by wip/g/gprint.py out of the translation, by the kit's print program. Lean checks it.
namespace Go.Proofs.Ytmoiacijklkfaaa.G
open Go.RowKit Go.Proofs.YtmoiacijklkfaaaW.PrintWords Go.Proofs.YtmoiacijklkfaaaW.PrintLast Go.Proofs.YtmoiacijklkfaaaW.PrintMore
attribute [local go_sem] max2_int min2_int max_two min_two max_three min_three max_four min_four   -- for this text's walks alone
set_option linter.unusedVariables false
set_option linter.unusedSimpArgs false

/-! ### spec_BaseNew: function 20 -/
def spec_BaseNew.f  : Option ((List (S46)) × Int × Int × (List (S90))) := some (([] : List (S46)), 0, 1, ([] : List (S90)))
set_option maxHeartbeats 8000000 in
set_option maxRecDepth 100000 in
theorem spec_BaseNew.calls  (r1 : List (S46)) (r2 : Int) (r3 : Int) (r4 : List (S90)) (w : World) (h : spec_BaseNew.f  = some (r1, r2, r3, r4)) :
    Calls Try.prog 20 #[] w fun e w' => ∃ v0_ v3_ : Value, e = .returned (.agg #[v0_, .int .i64 r2, .int .i64 r3, v3_]) ∧ Kd.R k46 46 w' w.heap.size (fun _ => True) v0_ r1 ∧ Kd.R k90 90 w' w.heap.size (fun _ => True) v3_ r4 ∧ Below w.heap.size w w' := by
  have hu30 := Try.underlying30
  have HB := Aside0.mk (Below.refl w.heap.size w)
  have H : (some (([] : List (S46)), 0, 1, ([] : List (S90)))) = some (r1, r2, r3, r4) := h
  clear h
  simp only [Option.some.injEq, Prod.mk.injEq] at H
  obtain ⟨rfl, rfl, rfl, rfl⟩ := H
  go_enter Try.func20, Try.ntmps20
  go_wp2_with (first | ((with_reducible refine gate_dst (N := 0) rfl ?_); refine box_event ?hg (N := 0) ?hd (cs := #[.slice none 0 0, .int .i64 0, .int .i64 0, .slice none 0 0]) (t := 30) ?hr ?_; (case hd => rfl); (case hg => rfl); (case hr => first | (go_simp; done) | (go_simp; rfl)); intro gb1046 hg w1 hbox hb; have n0_ := Aside0.mk (below_step (by repeat (first | (with_reducible first | exact HB.out | apply below_alloc | apply pw_below_drewN | apply below_drew1) | exact HB.out)) hb); have n1_ := Aside0.mk (hbox); have n2_ := Aside0.mk ((by rw [hg]; exact (below_size (by repeat (first | (with_reducible first | exact HB.out | apply below_alloc | apply pw_below_drewN | apply below_drew1) | exact HB.out))) : w.heap.size ≤ gb1046)); have n3_ := Aside0.mk ((by rw [hg]; exact (below_size (by repeat (first | (with_reducible first | exact HB.out | apply below_alloc | apply pw_below_drewN | apply below_drew1) | exact HB.out))) : w.heap.size ≤ gb1046)); clear HB; have HB := n0_; have BK1046 := n1_; have GW1046 := n2_; have GE1046 := n3_; clear n0_ n1_ n2_ n3_; clear hb hbox hg; have hcz2_0 : w1.cell? ⟨gb1046, 0, none⟩ = some (.slice none 0 0) := (blk_cell BK1046.out 0).trans rfl; have hcz2_1 : w1.cell? ⟨gb1046, 1, none⟩ = some (.int .i64 0) := (blk_cell BK1046.out 1).trans rfl; have hcz2_2 : w1.cell? ⟨gb1046, 2, none⟩ = some (.int .i64 0) := (blk_cell BK1046.out 2).trans rfl; have hcz2_3 : w1.cell? ⟨gb1046, 3, none⟩ = some (.slice none 0 0) := (blk_cell BK1046.out 3).trans rfl; have hfz2_0 := blk_frozen BK1046.out 0; have hfz2_1 := blk_frozen BK1046.out 1; have hfz2_2 := blk_frozen BK1046.out 2; have hfz2_3 := blk_frozen BK1046.out 3))
  refine bodyPost_ret (results_cell_row rfl _ _ gb1046 30 #[.slice none 0 0, .int .i64 0, .int .i64 1, .slice none 0 0] (0, 0) _ rfl (by (with_reducible repeat (first | refine blk_drewN ?_ _ | refine blk_drew ?_ | refine blk_alloc ?_ _)); refine blk_put (cs := #[.slice none 0 0, .int .i64 0, .int .i64 1, .slice none 0 0]) ?_ 3 _ rfl; (with_reducible repeat (first | refine blk_drewN ?_ _ | refine blk_drew ?_ | refine blk_alloc ?_ _)); refine blk_put (cs := #[.slice none 0 0, .int .i64 0, .int .i64 0, .slice none 0 0]) ?_ 2 _ rfl; (with_reducible repeat (first | refine blk_drewN ?_ _ | refine blk_drew ?_ | refine blk_alloc ?_ _)); refine blk_put (cs := #[.slice none 0 0, .int .i64 0, .int .i64 0, .slice none 0 0]) ?_ 1 _ rfl; (with_reducible repeat (first | refine blk_drewN ?_ _ | refine blk_drew ?_ | refine blk_alloc ?_ _)); refine blk_put (cs := #[.slice none 0 0, .int .i64 0, .int .i64 0, .slice none 0 0]) ?_ 0 _ rfl; (with_reducible repeat (first | refine blk_drewN ?_ _ | refine blk_drew ?_ | refine blk_alloc ?_ _)); exact BK1046.out) Try.underlying30 rfl (by kernel_rfl)) rfl ?_
  exact ⟨_, _, by first | rfl | (simp [errW_none, errW_some] <;> rfl) | (simp [*, errW_none, errW_some] <;> rfl), by first | exact Kd.R_nil _ _ _ _ _ | exact Kd.N_nil _ _ _ _ _ | exact Kd.V_nil _ _ _ _ _ | exact Kd.Q_nil _ _ _ _ _ | exact Kd.S_nil _ _ _ _ _, by first | exact Kd.R_nil _ _ _ _ _ | exact Kd.N_nil _ _ _ _ _ | exact Kd.V_nil _ _ _ _ _ | exact Kd.Q_nil _ _ _ _ _ | exact Kd.S_nil _ _ _ _ _, by repeat (first | (with_reducible first | exact HB.out | apply below_alloc | apply pw_below_drewN | apply below_drew1 | refine below_set ?_ GE1046.out) | exact HB.out)⟩

end Go.Proofs.Ytmoiacijklkfaaa.G

/- G21 -/
-- Laid by wip/g/gprint.py out of the translation, by the kit's print program. Lean checks it.
namespace Go.Proofs.Ytmoiacijklkfaaa.G
open Go.RowKit Go.Proofs.YtmoiacijklkfaaaW.PrintWords Go.Proofs.YtmoiacijklkfaaaW.PrintLast Go.Proofs.YtmoiacijklkfaaaW.PrintMore
attribute [local go_sem] max2_int min2_int max_two min_two max_three min_three max_four min_four   -- for this text's walks alone
set_option linter.unusedVariables false
set_option linter.unusedSimpArgs false

/-! ### impl_BaseNew: function 21 -/
def impl_BaseNew.f  : Option ((List (S46)) × Int × Int × (List (S90))) := some (([] : List (S46)), 0, 1, ([] : List (S90)))
set_option maxHeartbeats 8000000 in
set_option maxRecDepth 100000 in
theorem impl_BaseNew.calls  (r1 : List (S46)) (r2 : Int) (r3 : Int) (r4 : List (S90)) (w : World) (h : impl_BaseNew.f  = some (r1, r2, r3, r4)) :
    Calls Try.prog 21 #[] w fun e w' => ∃ v0_ v3_ : Value, e = .returned (.agg #[v0_, .int .i64 r2, .int .i64 r3, v3_]) ∧ Kd.R k46 46 w' w.heap.size (fun _ => True) v0_ r1 ∧ Kd.R k90 90 w' w.heap.size (fun _ => True) v3_ r4 ∧ Below w.heap.size w w' := by
  have hu30 := Try.underlying30
  have HB := Aside0.mk (Below.refl w.heap.size w)
  have H : (some (([] : List (S46)), 0, 1, ([] : List (S90)))) = some (r1, r2, r3, r4) := h
  clear h
  simp only [Option.some.injEq, Prod.mk.injEq] at H
  obtain ⟨rfl, rfl, rfl, rfl⟩ := H
  go_enter Try.func21, Try.ntmps21
  go_wp2_with (first | ((with_reducible refine gate_dst (N := 0) rfl ?_); refine box_event ?hg (N := 0) ?hd (cs := #[.slice none 0 0, .int .i64 0, .int .i64 0, .slice none 0 0]) (t := 30) ?hr ?_; (case hd => rfl); (case hg => rfl); (case hr => first | (go_simp; done) | (go_simp; rfl)); intro gb1047 hg w1 hbox hb; have n0_ := Aside0.mk (below_step (by repeat (first | (with_reducible first | exact HB.out | apply below_alloc | apply pw_below_drewN | apply below_drew1) | exact HB.out)) hb); have n1_ := Aside0.mk (hbox); have n2_ := Aside0.mk ((by rw [hg]; exact (below_size (by repeat (first | (with_reducible first | exact HB.out | apply below_alloc | apply pw_below_drewN | apply below_drew1) | exact HB.out))) : w.heap.size ≤ gb1047)); have n3_ := Aside0.mk ((by rw [hg]; exact (below_size (by repeat (first | (with_reducible first | exact HB.out | apply below_alloc | apply pw_below_drewN | apply below_drew1) | exact HB.out))) : w.heap.size ≤ gb1047)); clear HB; have HB := n0_; have BK1047 := n1_; have GW1047 := n2_; have GE1047 := n3_; clear n0_ n1_ n2_ n3_; clear hb hbox hg; have hcz2_0 : w1.cell? ⟨gb1047, 0, none⟩ = some (.slice none 0 0) := (blk_cell BK1047.out 0).trans rfl; have hcz2_1 : w1.cell? ⟨gb1047, 1, none⟩ = some (.int .i64 0) := (blk_cell BK1047.out 1).trans rfl; have hcz2_2 : w1.cell? ⟨gb1047, 2, none⟩ = some (.int .i64 0) := (blk_cell BK1047.out 2).trans rfl; have hcz2_3 : w1.cell? ⟨gb1047, 3, none⟩ = some (.slice none 0 0) := (blk_cell BK1047.out 3).trans rfl; have hfz2_0 := blk_frozen BK1047.out 0; have hfz2_1 := blk_frozen BK1047.out 1; have hfz2_2 := blk_frozen BK1047.out 2; have hfz2_3 := blk_frozen BK1047.out 3))
  refine bodyPost_ret (results_cell_row rfl _ _ gb1047 30 #[.slice none 0 0, .int .i64 0, .int .i64 1, .slice none 0 0] (0, 0) _ rfl (by (with_reducible repeat (first | refine blk_drewN ?_ _ | refine blk_drew ?_ | refine blk_alloc ?_ _)); refine blk_put (cs := #[.slice none 0 0, .int .i64 0, .int .i64 1, .slice none 0 0]) ?_ 3 _ rfl; (with_reducible repeat (first | refine blk_drewN ?_ _ | refine blk_drew ?_ | refine blk_alloc ?_ _)); refine blk_put (cs := #[.slice none 0 0, .int .i64 0, .int .i64 0, .slice none 0 0]) ?_ 2 _ rfl; (with_reducible repeat (first | refine blk_drewN ?_ _ | refine blk_drew ?_ | refine blk_alloc ?_ _)); refine blk_put (cs := #[.slice none 0 0, .int .i64 0, .int .i64 0, .slice none 0 0]) ?_ 1 _ rfl; (with_reducible repeat (first | refine blk_drewN ?_ _ | refine blk_drew ?_ | refine blk_alloc ?_ _)); refine blk_put (cs := #[.slice none 0 0, .int .i64 0, .int .i64 0, .slice none 0 0]) ?_ 0 _ rfl; (with_reducible repeat (first | refine blk_drewN ?_ _ | refine blk_drew ?_ | refine blk_alloc ?_ _)); exact BK1047.out) Try.underlying30 rfl (by kernel_rfl)) rfl ?_
  exact ⟨_, _, by first | rfl | (simp [errW_none, errW_some] <;> rfl) | (simp [*, errW_none, errW_some] <;> rfl), by first | exact Kd.R_nil _ _ _ _ _ | exact Kd.N_nil _ _ _ _ _ | exact Kd.V_nil _ _ _ _ _ | exact Kd.Q_nil _ _ _ _ _ | exact Kd.S_nil _ _ _ _ _, by first | exact Kd.R_nil _ _ _ _ _ | exact Kd.N_nil _ _ _ _ _ | exact Kd.V_nil _ _ _ _ _ | exact Kd.Q_nil _ _ _ _ _ | exact Kd.S_nil _ _ _ _ _, by repeat (first | (with_reducible first | exact HB.out | apply below_alloc | apply pw_below_drewN | apply below_drew1 | refine below_set ?_ GE1047.out) | exact HB.out)⟩

end Go.Proofs.Ytmoiacijklkfaaa.G
