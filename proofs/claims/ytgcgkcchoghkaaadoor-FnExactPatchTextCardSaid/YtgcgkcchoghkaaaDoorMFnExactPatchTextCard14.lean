import Derived.Test.YtgcgkcchoghkaaaDoorMFnExactPatchTextCard1
import Derived.Test.YtgcgkcchoghkaaaDoorMFnExactPatchTextCard5
import Derived.Test.YtgcgkcchoghkaaaDoorMFnExactPatchTextCard13
import Derived.Test.YtgcgkcchoghkaaaDoorMFnExactPatchTextCard10
import Derived.Test.YtgcgkcchoghkaaaDoorMFnExactPatchTextCard4
import Derived.Test.YtgcgkcchoghkaaaDoorMFnExactPatchTextCard11
import Derived.Test.YtgcgkcchoghkaaaDoorMFnExactPatchTextCard12
/- G10 -/
-- Laid by wip/g/gprint.py out of the translation, by the kit's print program. Lean checks it.
namespace Go.Proofs.YtgcgkcchoghkaaaDoor.G
open Go.RowKit Go.Proofs.YtgcgkcchoghkaaaDoorW.PrintWords Go.Proofs.YtgcgkcchoghkaaaDoorW.PrintLast Go.Proofs.YtgcgkcchoghkaaaDoorW.PrintMore
attribute [local go_sem] max2_int min2_int max_two min_two max_three min_three max_four min_four   -- for this text's walks alone
set_option linter.unusedVariables false
set_option linter.unusedSimpArgs false

/-! ### spec_PatchOk: function 10 -/
mutual
def spec_PatchOk.l0 : Nat → List (S41) → Int → Option (Bool)
 | 0, _, _ => none
 | k + 1, x0, x3 => if x3 < (x0.length : Int) then (if 0 ≤ x3 then ((spec_l1In.f ((rd_T41 x0 x3).f0) 1 3).bind fun t139 => (if t139 = true then ((spec_l5Path.f k ((rd_T41 x0 x3).f1)).bind fun t140 => (spec_PatchOk.j1 k x0 x3 (!t140) ((rd_T41 x0 x3).f0) ((rd_T41 x0 x3).f1) ((rd_T41 x0 x3).f2.f0) ((rd_T41 x0 x3).f2.f1) ((rd_T41 x0 x3).f2.f2) ((rd_T41 x0 x3).f2.f3) ((rd_T41 x0 x3).f2.f4))) else (spec_PatchOk.j1 k x0 x3 true ((rd_T41 x0 x3).f0) ((rd_T41 x0 x3).f1) ((rd_T41 x0 x3).f2.f0) ((rd_T41 x0 x3).f2.f1) ((rd_T41 x0 x3).f2.f2) ((rd_T41 x0 x3).f2.f3) ((rd_T41 x0 x3).f2.f4)))) else (none)) else (some (decide ((x0.length : Int) ≤ 20)))
def spec_PatchOk.j1 : Nat → List (S41) → Int → Bool → Int → List ByteArray → Int → ByteArray → Int → List ByteArray → List (S39) → Option (Bool)
 | 0, _, _, _, _, _, _, _, _, _, _ => none
 | k + 1, x0, x3, x24, x139000, x139001, x139002, x139003, x139004, x139005, x139006 => if x24 = true then (some false) else (if x139000 = 2 then ((spec_l5Zero.f x139002 x139003 x139004 x139005 x139006).bind fun t141 => (if t141 = true then (spec_PatchOk.l0 k x0 (wrap64 (x3 + 1))) else (some false))) else ((spec_ValueOk.f k x139002 x139003 x139004 x139005 x139006).bind fun t142 => (if t142 = true then (spec_PatchOk.l0 k x0 (wrap64 (x3 + 1))) else (some false))))
end
def spec_PatchOk.f (k : Nat) (l0 : List (S41)) : Option (Bool) := spec_PatchOk.l0 k l0 0
set_option maxHeartbeats 8000000 in
set_option maxRecDepth 100000 in
theorem spec_PatchOk.calls (k : Nat) (A0 : Option Addr) (c0 : Nat) (l0 : List (S41)) (r : Bool) (w : World) (hr0 : Kd.C k41 w A0 l0.length l0) (hc0 : l0.length ≤ c0) (h : spec_PatchOk.f k l0 = some r) :
  Calls Tryd.prog 10 #[.slice A0 l0.length c0] w fun e w' => e = .returned (.bool r) ∧ Below w.heap.size w w' := by
 have hu41 := Tryd.underlying41
 have hu39 := Tryd.underlying39
 have HR0 := Aside0.mk hr0
 have HC0 := Aside0.mk hc0
 clear hr0 hc0
 have HB := Aside0.mk (Below.refl w.heap.size w)
 unfold spec_PatchOk.f at h; have H := h
 clear h
 have H' := Aside0.mk H
 clear H
 go_enter Tryd.func10, Tryd.ntmps10
 go_wp2
 go_loopg [3] k (fun kq v3 w' => ∃ (x3_1 : Int), v3 = .int .i64 x3_1 ∧ Aside0 (spec_PatchOk.l0 kq l0 x3_1 = some r) ∧ Aside0 (kq ≤ k) ∧ Aside0 (Below w.heap.size w w'))
 case atStart => exact ⟨(0), (by first | rfl | (simp; done) | (simp [*]; done)), H', ⟨Nat.le_refl _⟩, ⟨qB HB⟩⟩
 case round =>
  clear H'
  try clear c1
  obtain ⟨x3_1, rfl, HA, HK1, HB⟩ := hrel
  cases gk with
  | zero => exact absurd HA.out (by simp [spec_PatchOk.l0])
  | succ k1 =>
   have H := HA.out
   clear HA
   simp only [spec_PatchOk.l0] at H
   by_cases c2 : x3_1 < (l0.length : Int)
   ·rw [if_pos c2] at H
    have c2b0 : decide (x3_1 < (l0.length : Int)) = true := decide_eq_true c2
    clear c2
    by_cases c3 : 0 ≤ x3_1
    ·rw [if_pos c3] at H
     have c3b0 : decide (0 ≤ x3_1) = true := decide_eq_true c3
     clear c3
     have HC4 := Aside0.mk H
     clear H
     have p137 : 0 ≤ (x3_1 : Int) := of_decide_eq_true (by first | (with_reducible assumption) | assumption)
     have q137 : x3_1 < (l0.length : Int) := of_decide_eq_true (by first | (with_reducible assumption) | assumption)
     obtain ⟨ad137, A137_1, c137_1, A137_5, c137_5, A137_6, c137_6, e137, hx137_0, hx137_1, hx137_2, hx137_3, hx137_4, hx137_5, hx137_6, hl137_1, hi137_1, hl137_5, hi137_5, hl137_6, hi137_6⟩ := at_T41 HR0.out x3_1 p137 q137
     cases e137
     replace hx137_0 := (HB.out.cell (World.block_lt_of_cell? w _ hx137_0)).trans hx137_0
     replace hx137_1 := (HB.out.cell (World.block_lt_of_cell? w _ hx137_1)).trans hx137_1
     replace hx137_2 := (HB.out.cell (World.block_lt_of_cell? w _ hx137_2)).trans hx137_2
     replace hx137_3 := (HB.out.cell (World.block_lt_of_cell? w _ hx137_3)).trans hx137_3
     replace hx137_4 := (HB.out.cell (World.block_lt_of_cell? w _ hx137_4)).trans hx137_4
     replace hx137_5 := (HB.out.cell (World.block_lt_of_cell? w _ hx137_5)).trans hx137_5
     replace hx137_6 := (HB.out.cell (World.block_lt_of_cell? w _ hx137_6)).trans hx137_6
     have HR137_1 := Aside0.mk hi137_1
     have HC137_1 := Aside0.mk hl137_1
     clear hi137_1 hl137_1
     have HR137_5 := Aside0.mk hi137_5
     have HC137_5 := Aside0.mk hl137_5
     clear hi137_5 hl137_5
     have HR137_6 := Aside0.mk hi137_6
     have HC137_6 := Aside0.mk hl137_6
     clear hi137_6 hl137_6
     replace p137 := eq_true p137
     replace q137 := eq_true q137
     go_upto_region 5 with (first | ((with_reducible refine gate_dst (N := 4) rfl ?_); refine box_event ?hg (N := 4) ?hd (cs := #[.int .i64 0, .slice none 0 0, .int .i64 0, .string (⟨#[]⟩ : ByteArray), .int .i64 0, .slice none 0 0, .slice none 0 0]) (t := 41) ?hr ?_; (case hd => rfl); (case hg => rfl); (case hr => go_simp); intro gb138 hg w5 hbox hb; have n0_ := Aside0.mk (below_step (qB HB) hb); have n1_ := Aside0.mk (hbox); have n2_ := Aside0.mk (qG HB hg); have n3_ := Aside0.mk (qG HB hg); clear HB; have HB := n0_; have BK138 := n1_; have GW138 := n2_; have GE138 := n3_; clear n0_ n1_ n2_ n3_; clear hb hbox hg; obtain ⟨hcz6_0, hcz6_1, hcz6_2, hcz6_3, hcz6_4, hcz6_5, hcz6_6, hfz6_0, hfz6_1, hfz6_2, hfz6_3, hfz6_4, hfz6_5, hfz6_6⟩ := blk7 BK138))
     (try simp only [Act.put, List.setIfInBounds_toArray, List.set_cons_zero, List.set_cons_succ])
     go_cut [24] (fun v24 wc => ∃ (kq : Nat) (x24_3 : Bool), v24 = .bool x24_3 ∧ Aside0 (spec_PatchOk.j1 kq l0 x3_1 x24_3 ((rd_T41 l0 x3_1).f0) ((rd_T41 l0 x3_1).f1) ((rd_T41 l0 x3_1).f2.f0) ((rd_T41 l0 x3_1).f2.f1) ((rd_T41 l0 x3_1).f2.f2) ((rd_T41 l0 x3_1).f2.f3) ((rd_T41 l0 x3_1).f2.f4) = some r) ∧ Aside0 (kq ≤ k1) ∧ Aside0 (wc.heap[gb138]? = some (.cells #[.int .i64 ((rd_T41 l0 x3_1).f0), (.slice A137_1 ((rd_T41 l0 x3_1).f1).length c137_1), .int .i64 ((rd_T41 l0 x3_1).f2.f0), .string ((rd_T41 l0 x3_1).f2.f1), .int .i64 ((rd_T41 l0 x3_1).f2.f2), (.slice A137_5 ((rd_T41 l0 x3_1).f2.f3).length c137_5), (.slice A137_6 ((rd_T41 l0 x3_1).f2.f4).length c137_6)] 41 (0, 0))) ∧ Aside0 (Below w.heap.size w wc))
     case first =>
      have H := HC4.out
      clear HC4
      replace H := Option.bind_eq_some_iff.mp H
      obtain ⟨t139, A70, H⟩ := H
      try dsimp only at H
      have A7 := Aside0.mk A70
      clear A70
      by_cases c8 : t139 = true
      ·subst c8
       have H1 : ((spec_l5Path.f k1 ((rd_T41 l0 x3_1).f1)).bind fun t140 => (spec_PatchOk.j1 k1 l0 x3_1 (!t140) ((rd_T41 l0 x3_1).f0) ((rd_T41 l0 x3_1).f1) ((rd_T41 l0 x3_1).f2.f0) ((rd_T41 l0 x3_1).f2.f1) ((rd_T41 l0 x3_1).f2.f2) ((rd_T41 l0 x3_1).f2.f3) ((rd_T41 l0 x3_1).f2.f4))) = some r := by rw [if_pos rfl] at H; exact H
       clear H
       have H := H1
       clear H1
       replace H := Option.bind_eq_some_iff.mp H
       obtain ⟨t140, A90, H⟩ := H
       try dsimp only at H
       have A9 := Aside0.mk A90
       clear A90
       have H' := Aside0.mk H
       clear H
       obtain ⟨hcz10_0, hcz10_1, hcz10_2, hcz10_3, hcz10_4, hcz10_5, hcz10_6, hfz10_0, hfz10_1, hfz10_2, hfz10_3, hfz10_4, hfz10_5, hfz10_6⟩ := blk7 BK138
       go_wp2_with (first | ((with_reducible refine gate_callee (f := 19) rfl ?_); refine goesL_ (some 17) rfl rfl Tryd.func19 (by kernel_rfl) rfl #[.int .i64 ((rd_T41 l0 x3_1).f0), .int .i64 1, .int .i64 3] rfl (by (try simp only [List.map_toArray, List.map_cons, List.map_nil]); first | done | rfl | (simp only [List.length_drop, List.length_take]; rfl)) ?_; (with_reducible refine (spec_l1In.calls ((rd_T41 l0 x3_1).f0) 1 3 true _ A7.out).mono ?_); rintro e w' ⟨rfl, ⟨nd, rfl⟩⟩; refine ⟨_, rfl, ?_⟩) | (go_at_call 20; (with_reducible refine (spec_l5Path.calls k1 _ _ ((rd_T41 l0 x3_1).f1) t140 _ ?side1 ?side2 A9.out).mono ?_); (case side1 => exact Kd.C_below HR137_1.out (by repeat (first | (with_reducible first | exact HB.out | apply below_alloc | apply pw_below_drewN | apply below_drew1 | refine below_set ?_ GE138.out) | exact HB.out))); (case side2 => exact HC137_1.out); rintro e w' ⟨rfl, ⟨nd, rfl⟩⟩))
       go_meet
       case rel => exact ⟨_, (!t140), (by first | rfl | (simp; done) | (simp [*]; done)), H', ⟨by have := HK1.out; first | omega | exact Nat.le_refl _⟩, ⟨by (with_reducible repeat (first | refine blk_drewN ?_ _ | refine blk_drew ?_ | refine blk_alloc ?_ _)); refine blk_put (cs := #[.int .i64 ((rd_T41 l0 x3_1).f0), .slice A137_1 ((rd_T41 l0 x3_1).f1).length c137_1, .int .i64 ((rd_T41 l0 x3_1).f2.f0), .string ((rd_T41 l0 x3_1).f2.f1), .int .i64 ((rd_T41 l0 x3_1).f2.f2), .slice A137_5 ((rd_T41 l0 x3_1).f2.f3).length c137_5, .slice none 0 0]) ?_ 6 _ rfl; (with_reducible repeat (first | refine blk_drewN ?_ _ | refine blk_drew ?_ | refine blk_alloc ?_ _)); refine blk_put (cs := #[.int .i64 ((rd_T41 l0 x3_1).f0), .slice A137_1 ((rd_T41 l0 x3_1).f1).length c137_1, .int .i64 ((rd_T41 l0 x3_1).f2.f0), .string ((rd_T41 l0 x3_1).f2.f1), .int .i64 ((rd_T41 l0 x3_1).f2.f2), .slice none 0 0, .slice none 0 0]) ?_ 5 _ rfl; (with_reducible repeat (first | refine blk_drewN ?_ _ | refine blk_drew ?_ | refine blk_alloc ?_ _)); refine blk_put (cs := #[.int .i64 ((rd_T41 l0 x3_1).f0), .slice A137_1 ((rd_T41 l0 x3_1).f1).length c137_1, .int .i64 ((rd_T41 l0 x3_1).f2.f0), .string ((rd_T41 l0 x3_1).f2.f1), .int .i64 0, .slice none 0 0, .slice none 0 0]) ?_ 4 _ rfl; (with_reducible repeat (first | refine blk_drewN ?_ _ | refine blk_drew ?_ | refine blk_alloc ?_ _)); refine blk_put (cs := #[.int .i64 ((rd_T41 l0 x3_1).f0), .slice A137_1 ((rd_T41 l0 x3_1).f1).length c137_1, .int .i64 ((rd_T41 l0 x3_1).f2.f0), .string (⟨#[]⟩ : ByteArray), .int .i64 0, .slice none 0 0, .slice none 0 0]) ?_ 3 _ rfl; (with_reducible repeat (first | refine blk_drewN ?_ _ | refine blk_drew ?_ | refine blk_alloc ?_ _)); refine blk_put (cs := #[.int .i64 ((rd_T41 l0 x3_1).f0), .slice A137_1 ((rd_T41 l0 x3_1).f1).length c137_1, .int .i64 0, .string (⟨#[]⟩ : ByteArray), .int .i64 0, .slice none 0 0, .slice none 0 0]) ?_ 2 _ rfl; (with_reducible repeat (first | refine blk_drewN ?_ _ | refine blk_drew ?_ | refine blk_alloc ?_ _)); refine blk_put (cs := #[.int .i64 ((rd_T41 l0 x3_1).f0), .slice none 0 0, .int .i64 0, .string (⟨#[]⟩ : ByteArray), .int .i64 0, .slice none 0 0, .slice none 0 0]) ?_ 1 _ rfl; (with_reducible repeat (first | refine blk_drewN ?_ _ | refine blk_drew ?_ | refine blk_alloc ?_ _)); refine blk_put (cs := #[.int .i64 0, .slice none 0 0, .int .i64 0, .string (⟨#[]⟩ : ByteArray), .int .i64 0, .slice none 0 0, .slice none 0 0]) ?_ 0 _ rfl; (with_reducible repeat (first | refine blk_drewN ?_ _ | refine blk_drew ?_ | refine blk_alloc ?_ _)); exact BK138.out⟩, ⟨by repeat (first | (with_reducible first | exact HB.out | apply below_alloc | apply pw_below_drewN | apply below_drew1 | refine below_set ?_ GE138.out) | exact HB.out)⟩⟩
      ·replace c8 := Bool.eq_false_iff.mpr c8
       subst c8
       have H1 : (spec_PatchOk.j1 k1 l0 x3_1 true ((rd_T41 l0 x3_1).f0) ((rd_T41 l0 x3_1).f1) ((rd_T41 l0 x3_1).f2.f0) ((rd_T41 l0 x3_1).f2.f1) ((rd_T41 l0 x3_1).f2.f2) ((rd_T41 l0 x3_1).f2.f3) ((rd_T41 l0 x3_1).f2.f4)) = some r := by rw [if_neg (show ¬ (false = true) by decide)] at H; exact H
       clear H
       have H := H1
       clear H1
       have H' := Aside0.mk H
       clear H
       obtain ⟨hcz11_0, hcz11_1, hcz11_2, hcz11_3, hcz11_4, hcz11_5, hcz11_6, hfz11_0, hfz11_1, hfz11_2, hfz11_3, hfz11_4, hfz11_5, hfz11_6⟩ := blk7 BK138
       go_wp2_with (first | ((with_reducible refine gate_callee (f := 19) rfl ?_); refine goesL_ (some 17) rfl rfl Tryd.func19 (by kernel_rfl) rfl #[.int .i64 ((rd_T41 l0 x3_1).f0), .int .i64 1, .int .i64 3] rfl (by (try simp only [List.map_toArray, List.map_cons, List.map_nil]); first | done | rfl | (simp only [List.length_drop, List.length_take]; rfl)) ?_; (with_reducible refine (spec_l1In.calls ((rd_T41 l0 x3_1).f0) 1 3 false _ A7.out).mono ?_); rintro e w' ⟨rfl, ⟨nd, rfl⟩⟩; refine ⟨_, rfl, ?_⟩))
       go_meet
       case rel => exact ⟨_, (true), (by first | rfl | (simp; done) | (simp [*]; done)), H', ⟨by have := HK1.out; first | omega | exact Nat.le_refl _⟩, ⟨by (with_reducible repeat (first | refine blk_drewN ?_ _ | refine blk_drew ?_ | refine blk_alloc ?_ _)); refine blk_put (cs := #[.int .i64 ((rd_T41 l0 x3_1).f0), .slice A137_1 ((rd_T41 l0 x3_1).f1).length c137_1, .int .i64 ((rd_T41 l0 x3_1).f2.f0), .string ((rd_T41 l0 x3_1).f2.f1), .int .i64 ((rd_T41 l0 x3_1).f2.f2), .slice A137_5 ((rd_T41 l0 x3_1).f2.f3).length c137_5, .slice none 0 0]) ?_ 6 _ rfl; (with_reducible repeat (first | refine blk_drewN ?_ _ | refine blk_drew ?_ | refine blk_alloc ?_ _)); refine blk_put (cs := #[.int .i64 ((rd_T41 l0 x3_1).f0), .slice A137_1 ((rd_T41 l0 x3_1).f1).length c137_1, .int .i64 ((rd_T41 l0 x3_1).f2.f0), .string ((rd_T41 l0 x3_1).f2.f1), .int .i64 ((rd_T41 l0 x3_1).f2.f2), .slice none 0 0, .slice none 0 0]) ?_ 5 _ rfl; (with_reducible repeat (first | refine blk_drewN ?_ _ | refine blk_drew ?_ | refine blk_alloc ?_ _)); refine blk_put (cs := #[.int .i64 ((rd_T41 l0 x3_1).f0), .slice A137_1 ((rd_T41 l0 x3_1).f1).length c137_1, .int .i64 ((rd_T41 l0 x3_1).f2.f0), .string ((rd_T41 l0 x3_1).f2.f1), .int .i64 0, .slice none 0 0, .slice none 0 0]) ?_ 4 _ rfl; (with_reducible repeat (first | refine blk_drewN ?_ _ | refine blk_drew ?_ | refine blk_alloc ?_ _)); refine blk_put (cs := #[.int .i64 ((rd_T41 l0 x3_1).f0), .slice A137_1 ((rd_T41 l0 x3_1).f1).length c137_1, .int .i64 ((rd_T41 l0 x3_1).f2.f0), .string (⟨#[]⟩ : ByteArray), .int .i64 0, .slice none 0 0, .slice none 0 0]) ?_ 3 _ rfl; (with_reducible repeat (first | refine blk_drewN ?_ _ | refine blk_drew ?_ | refine blk_alloc ?_ _)); refine blk_put (cs := #[.int .i64 ((rd_T41 l0 x3_1).f0), .slice A137_1 ((rd_T41 l0 x3_1).f1).length c137_1, .int .i64 0, .string (⟨#[]⟩ : ByteArray), .int .i64 0, .slice none 0 0, .slice none 0 0]) ?_ 2 _ rfl; (with_reducible repeat (first | refine blk_drewN ?_ _ | refine blk_drew ?_ | refine blk_alloc ?_ _)); refine blk_put (cs := #[.int .i64 ((rd_T41 l0 x3_1).f0), .slice none 0 0, .int .i64 0, .string (⟨#[]⟩ : ByteArray), .int .i64 0, .slice none 0 0, .slice none 0 0]) ?_ 1 _ rfl; (with_reducible repeat (first | refine blk_drewN ?_ _ | refine blk_drew ?_ | refine blk_alloc ?_ _)); refine blk_put (cs := #[.int .i64 0, .slice none 0 0, .int .i64 0, .string (⟨#[]⟩ : ByteArray), .int .i64 0, .slice none 0 0, .slice none 0 0]) ?_ 0 _ rfl; (with_reducible repeat (first | refine blk_drewN ?_ _ | refine blk_drew ?_ | refine blk_alloc ?_ _)); exact BK138.out⟩, ⟨by repeat (first | (with_reducible first | exact HB.out | apply below_alloc | apply pw_below_drewN | apply below_drew1 | refine below_set ?_ GE138.out) | exact HB.out)⟩⟩
     case rest =>
      clear HC4
      try clear c1
      try clear p1
      try clear q1
      try clear hx1
      try clear c2
      try clear c2b0
      try clear p2
      try clear c3
      try clear c3b0
      try clear c8
      try clear c10
      try clear hcz10_0
      try clear hcz10_1
      try clear hcz10_2
      try clear hcz10_3
      try clear hcz10_4
      try clear hcz10_5
      try clear hcz10_6
      try clear hcz11_0
      try clear hcz11_1
      try clear hcz11_2
      try clear hcz11_3
      try clear hcz11_4
      try clear hcz11_5
      try clear hcz11_6
      try clear hcz6_0
      try clear hcz6_1
      try clear hcz6_2
      try clear hcz6_3
      try clear hcz6_4
      try clear hcz6_5
      try clear hcz6_6
      try clear hfz10_0
      try clear hfz10_1
      try clear hfz10_2
      try clear hfz10_3
      try clear hfz10_4
      try clear hfz10_5
      try clear hfz10_6
      try clear hfz11_0
      try clear hfz11_1
      try clear hfz11_2
      try clear hfz11_3
      try clear hfz11_4
      try clear hfz11_5
      try clear hfz11_6
      try clear hfz6_0
      try clear hfz6_1
      try clear hfz6_2
      try clear hfz6_3
      try clear hfz6_4
      try clear hfz6_5
      try clear hfz6_6
      try clear hx137_0
      try clear hx137_1
      try clear hx137_2
      try clear hx137_3
      try clear hx137_4
      try clear hx137_5
      try clear hx137_6
      try clear p137
      try clear q137
      obtain ⟨kq, x24_3, rfl, HA, HJ3, BK138, HB⟩ := hcut
      cases kq with
      | zero => exact absurd HA.out (by simp [spec_PatchOk.j1])
      | succ kj3 =>
       have H := HA.out
       clear HA
       simp only [spec_PatchOk.j1] at H
       by_cases c12 : x24_3 = true
       ·subst c12
        have H1 : (some false) = some r := by rw [if_pos rfl] at H; exact H
        clear H
        have H := H1
        clear H1
        obtain rfl := Option.some.inj H
        go_wp2
        go_ret
        exact ⟨by first | rfl | (simp [errW_none, errW_some] <;> rfl) | (simp [*, errW_none, errW_some] <;> rfl), by repeat (first | (with_reducible first | exact HB.out | apply below_alloc | apply pw_below_drewN | apply below_drew1 | refine below_set ?_ GE138.out) | exact HB.out)⟩
       ·replace c12 := Bool.eq_false_iff.mpr c12
        subst c12
        have H1 : (if ((rd_T41 l0 x3_1).f0) = 2 then ((spec_l5Zero.f ((rd_T41 l0 x3_1).f2.f0) ((rd_T41 l0 x3_1).f2.f1) ((rd_T41 l0 x3_1).f2.f2) ((rd_T41 l0 x3_1).f2.f3) ((rd_T41 l0 x3_1).f2.f4)).bind fun t141 => (if t141 = true then (spec_PatchOk.l0 kj3 l0 (wrap64 (x3_1 + 1))) else (some false))) else ((spec_ValueOk.f kj3 ((rd_T41 l0 x3_1).f2.f0) ((rd_T41 l0 x3_1).f2.f1) ((rd_T41 l0 x3_1).f2.f2) ((rd_T41 l0 x3_1).f2.f3) ((rd_T41 l0 x3_1).f2.f4)).bind fun t142 => (if t142 = true then (spec_PatchOk.l0 kj3 l0 (wrap64 (x3_1 + 1))) else (some false)))) = some r := by rw [if_neg (show ¬ (false = true) by decide)] at H; exact H
        clear H
        have H := H1
        clear H1
        by_cases c13 : ((rd_T41 l0 x3_1).f0) = 2
        ·rw [if_pos c13] at H
         have c13b0 : (((rd_T41 l0 x3_1).f0) == 2) = true := beq_iff_eq.mpr c13
         have c13b1 : (((rd_T41 l0 x3_1).f0) != 2) = false := bne_eq_false_iff_eq.mpr c13
         clear c13
         replace H := Option.bind_eq_some_iff.mp H
         obtain ⟨t141, A140, H⟩ := H
         try dsimp only at H
         have A14 := Aside0.mk A140
         clear A140
         by_cases c15 : t141 = true
         ·subst c15
          have H1 : (spec_PatchOk.l0 kj3 l0 (wrap64 (x3_1 + 1))) = some r := by rw [if_pos rfl] at H; exact H
          clear H
          have H := H1
          clear H1
          have H' := Aside0.mk H
          clear H
          obtain ⟨hcz16_0, hcz16_1, hcz16_2, hcz16_3, hcz16_4, hcz16_5, hcz16_6, hfz16_0, hfz16_1, hfz16_2, hfz16_3, hfz16_4, hfz16_5, hfz16_6⟩ := blk7 BK138
          go_wp2_with (first | (go_at_call 21; (with_reducible refine (spec_l5Zero.calls ((rd_T41 l0 x3_1).f2.f0) ((rd_T41 l0 x3_1).f2.f1) ((rd_T41 l0 x3_1).f2.f2) _ _ ((rd_T41 l0 x3_1).f2.f3) _ _ ((rd_T41 l0 x3_1).f2.f4) true _ (qC HR137_5 HB) HC137_5.out (qC HR137_6 HB) HC137_6.out A14.out).mono ?_); rintro e w17 ⟨rfl, hb⟩; have n0_ := Aside0.mk (blk_below (qK BK138) hb); have n1_ := Aside0.mk (below_step (qB HB) hb); clear BK138; clear HB; have BK138 := n0_; have HB := n1_; clear n0_ n1_; (try clear hb); (try clear hb2); (try clear hk); (try clear hi); obtain ⟨hcz18_0, hcz18_1, hcz18_2, hcz18_3, hcz18_4, hcz18_5, hcz18_6, hfz18_0, hfz18_1, hfz18_2, hfz18_3, hfz18_4, hfz18_5, hfz18_6⟩ := blk7 BK138))
          go_roundg kj3
          case measure => have := HK1.out; have := HJ3.out; omega
          case rel => exact ⟨(wrap64 (x3_1 + 1)), (by first | rfl | (simp; done) | (simp [*]; done)), H', ⟨by have := HK1.out; have := HJ3.out; omega⟩, ⟨qB HB⟩⟩
         ·replace c15 := Bool.eq_false_iff.mpr c15
          subst c15
          have H1 : (some false) = some r := by rw [if_neg (show ¬ (false = true) by decide)] at H; exact H
          clear H
          have H := H1
          clear H1
          obtain rfl := Option.some.inj H
          obtain ⟨hcz19_0, hcz19_1, hcz19_2, hcz19_3, hcz19_4, hcz19_5, hcz19_6, hfz19_0, hfz19_1, hfz19_2, hfz19_3, hfz19_4, hfz19_5, hfz19_6⟩ := blk7 BK138
          go_wp2_with (first | (go_at_call 21; (with_reducible refine (spec_l5Zero.calls ((rd_T41 l0 x3_1).f2.f0) ((rd_T41 l0 x3_1).f2.f1) ((rd_T41 l0 x3_1).f2.f2) _ _ ((rd_T41 l0 x3_1).f2.f3) _ _ ((rd_T41 l0 x3_1).f2.f4) false _ (qC HR137_5 HB) HC137_5.out (qC HR137_6 HB) HC137_6.out A14.out).mono ?_); rintro e w20 ⟨rfl, hb⟩; have n0_ := Aside0.mk (blk_below (qK BK138) hb); have n1_ := Aside0.mk (below_step (qB HB) hb); clear BK138; clear HB; have BK138 := n0_; have HB := n1_; clear n0_ n1_; (try clear hb); (try clear hb2); (try clear hk); (try clear hi)))
          go_ret
          exact ⟨by first | rfl | (simp [errW_none, errW_some] <;> rfl) | (simp [*, errW_none, errW_some] <;> rfl), by repeat (first | (with_reducible first | exact HB.out | apply below_alloc | apply pw_below_drewN | apply below_drew1 | refine below_set ?_ GE138.out) | exact HB.out)⟩
        ·rw [if_neg c13] at H
         have c13b0 : (((rd_T41 l0 x3_1).f0) == 2) = false := beq_eq_false_iff_ne.mpr c13
         have c13b1 : (((rd_T41 l0 x3_1).f0) != 2) = true := bne_iff_ne.mpr c13
         replace H := Option.bind_eq_some_iff.mp H
         obtain ⟨t142, A210, H⟩ := H
         try dsimp only at H
         have A21 := Aside0.mk A210
         clear A210
         by_cases c22 : t142 = true
         ·subst c22
          have H1 : (spec_PatchOk.l0 kj3 l0 (wrap64 (x3_1 + 1))) = some r := by rw [if_pos rfl] at H; exact H
          clear H
          have H := H1
          clear H1
          have H' := Aside0.mk H
          clear H
          obtain ⟨hcz23_0, hcz23_1, hcz23_2, hcz23_3, hcz23_4, hcz23_5, hcz23_6, hfz23_0, hfz23_1, hfz23_2, hfz23_3, hfz23_4, hfz23_5, hfz23_6⟩ := blk7 BK138
          go_wp2_with (first | (go_at_call 22; (with_reducible refine (spec_ValueOk.calls kj3 ((rd_T41 l0 x3_1).f2.f0) ((rd_T41 l0 x3_1).f2.f1) ((rd_T41 l0 x3_1).f2.f2) _ _ ((rd_T41 l0 x3_1).f2.f3) _ _ ((rd_T41 l0 x3_1).f2.f4) true _ (qC HR137_5 HB) HC137_5.out (qC HR137_6 HB) HC137_6.out A21.out).mono ?_); rintro e w24 ⟨rfl, hb⟩; have n0_ := Aside0.mk (blk_below (qK BK138) hb); have n1_ := Aside0.mk (below_step (qB HB) hb); clear BK138; clear HB; have BK138 := n0_; have HB := n1_; clear n0_ n1_; (try clear hb); (try clear hb2); (try clear hk); (try clear hi)))
          go_roundg kj3
          case measure => have := HK1.out; have := HJ3.out; omega
          case rel => exact ⟨(wrap64 (x3_1 + 1)), (by first | rfl | (simp; done) | (simp [*]; done)), H', ⟨by have := HK1.out; have := HJ3.out; omega⟩, ⟨qB HB⟩⟩
         ·replace c22 := Bool.eq_false_iff.mpr c22
          subst c22
          have H1 : (some false) = some r := by rw [if_neg (show ¬ (false = true) by decide)] at H; exact H
          clear H
          have H := H1
          clear H1
          obtain rfl := Option.some.inj H
          obtain ⟨hcz25_0, hcz25_1, hcz25_2, hcz25_3, hcz25_4, hcz25_5, hcz25_6, hfz25_0, hfz25_1, hfz25_2, hfz25_3, hfz25_4, hfz25_5, hfz25_6⟩ := blk7 BK138
          go_wp2_with (first | (go_at_call 22; (with_reducible refine (spec_ValueOk.calls kj3 ((rd_T41 l0 x3_1).f2.f0) ((rd_T41 l0 x3_1).f2.f1) ((rd_T41 l0 x3_1).f2.f2) _ _ ((rd_T41 l0 x3_1).f2.f3) _ _ ((rd_T41 l0 x3_1).f2.f4) false _ (qC HR137_5 HB) HC137_5.out (qC HR137_6 HB) HC137_6.out A21.out).mono ?_); rintro e w26 ⟨rfl, hb⟩; have n0_ := Aside0.mk (blk_below (qK BK138) hb); have n1_ := Aside0.mk (below_step (qB HB) hb); clear BK138; clear HB; have BK138 := n0_; have HB := n1_; clear n0_ n1_; (try clear hb); (try clear hb2); (try clear hk); (try clear hi)))
          go_ret
          exact ⟨by first | rfl | (simp [errW_none, errW_some] <;> rfl) | (simp [*, errW_none, errW_some] <;> rfl), by repeat (first | (with_reducible first | exact HB.out | apply below_alloc | apply pw_below_drewN | apply below_drew1 | refine below_set ?_ GE138.out) | exact HB.out)⟩
    ·rw [if_neg c3] at H
     exact absurd H (by simp)
   ·rw [if_neg c2] at H
    have c2b0 : decide (x3_1 < (l0.length : Int)) = false := decide_eq_false c2
    clear c2
    obtain rfl := Option.some.inj H
    go_wp2
    go_ret
    exact ⟨by first | rfl | (simp [errW_none, errW_some] <;> rfl) | (simp [*, errW_none, errW_some] <;> rfl), by repeat (first | (with_reducible first | exact HB.out | apply below_alloc | apply pw_below_drewN | apply below_drew1) | exact HB.out)⟩

end Go.Proofs.YtgcgkcchoghkaaaDoor.G

/- G42 -/
-- Laid by wip/g/gprint.py out of the translation, by the kit's print program. Lean checks it.
namespace Go.Proofs.YtgcgkcchoghkaaaDoor.G
open Go.RowKit Go.Proofs.YtgcgkcchoghkaaaDoorW.PrintWords Go.Proofs.YtgcgkcchoghkaaaDoorW.PrintLast Go.Proofs.YtgcgkcchoghkaaaDoorW.PrintMore
attribute [local go_sem] max2_int min2_int max_two min_two max_three min_three max_four min_four   -- for this text's walks alone
set_option linter.unusedVariables false
set_option linter.unusedSimpArgs false

/-! ### slices_IndexFunc_simpl_Op_impl_Op: function 42 -/
set_option maxRecDepth 100000 in
theorem slices_IndexFunc_simpl_Op_impl_Op.calls {α : Type} (d : Kd α) (hd : d.sz = 7) (kf : Nat) (hkf : ∀ (zs : Array Value) (W : World), (callFunc kf zs).run Tryd.prog W = .ok (.enter kf zs) W) (caps : Array Value) (p : α → Option Bool) (A0 : Option Addr) (c0 : Nat) (l0 : List α) (r : Int) (w : World) (hr0 : Kd.C d w A0 l0.length l0) (hc0 : l0.length ≤ c0)
    (hf : ∀ (x : α) (cs : List Value) (b : Bool) (W : World), x ∈ l0 → p x = some b → d.K W x cs → Below w.heap.size w W → Calls Tryd.prog kf (#[(.agg (cs).toArray)] ++ caps) W fun e w' => e = .returned (.bool b) ∧ Below W.heap.size W w') (h : idxO p l0 0 = some r) :
    Calls Tryd.prog 42 #[.slice A0 l0.length c0, .func (.func kf) #[] caps] w fun e w' => e = .returned (.int .i64 r) ∧ Below w.heap.size w w' := by
  have hm : l0.length ≤ 9223372036854775807 := hr0.2.1
  have HR := Lib.hid hr0
  have HF := Lib.hid hf
  have HH := Lib.hid h
  have HD := Lib.hid hd
  clear hr0 hf h hd
  go_enter Tryd.func42, Tryd.ntmps42
  go_wp2
  go_loopw [5, 8] (fun _ i wr => ∃ k : Nat, k ≤ l0.length ∧ i = .int .i64 k ∧ Hid (idxO p (l0.drop k) k = some r) ∧ Hid (Below w.heap.size w wr)) (fun _ i _ => l0.length - (intOf i).toNat)
  case atStart => exact ⟨0, by omega, rfl, HH, Below.refl _ _⟩
  case round =>
    obtain ⟨k, hk, rfl, HE, HB⟩ := hrel
    by_cases hlt : k < l0.length
    · obtain ⟨b, hp, hb1, hb2⟩ := idxO_step hlt HE.out
      have HP := Lib.hid hp
      have B1 := Lib.hid hb1
      have B2 := Lib.hid hb2
      clear hp hb1 hb2
      obtain ⟨ad, cs, rfl, hcs, hK, hcell⟩ := Kd.C_get HR.out l0[k] (k : Int) (by omega) (by omega)
      rw [HD.out] at hcs hcell
      obtain ⟨y0, y1, y2, y3, y4, y5, y6, rfl⟩ : ∃ y0 y1 y2 y3 y4 y5 y6, cs = [y0, y1, y2, y3, y4, y5, y6] := by match cs, hcs with | [y0, y1, y2, y3, y4, y5, y6], _ => exact ⟨y0, y1, y2, y3, y4, y5, y6, rfl⟩
      clear hcs
      simp only [Int.toNat_natCast, getD_at hlt] at hK hcell
      have HK := Lib.hid (d.K_below HB.out hK)
      clear hK
      have d0 := pw_cell_below HB.out (hcell 0 y0 rfl)
      have d1 := pw_cell_below HB.out (hcell 1 y1 rfl)
      have d2 := pw_cell_below HB.out (hcell 2 y2 rfl)
      have d3 := pw_cell_below HB.out (hcell 3 y3 rfl)
      have d4 := pw_cell_below HB.out (hcell 4 y4 rfl)
      have d5 := pw_cell_below HB.out (hcell 5 y5 rfl)
      have d6 := pw_cell_below HB.out (hcell 6 y6 rfl)
      clear hcell
      simp only [Nat.add_zero, Nat.mul_one] at d0
      rw [add_field _ _ 1 (by omega)] at d1
      rw [add_field _ _ 2 (by omega)] at d2
      rw [add_field _ _ 3 (by omega)] at d3
      rw [add_field _ _ 4 (by omega)] at d4
      rw [add_field _ _ 5 (by omega)] at d5
      rw [add_field _ _ 6 (by omega)] at d6
      cases b
      · have B3 := Lib.hid (B2.out rfl)
        clear B1 B2
        go_wp2_with fail
        refine (HF.out l0[k] _ _ _ (List.getElem_mem hlt) HP.out HK.out HB.out).mono ?_
        rintro e w' ⟨rfl, hbx⟩
        have HB2 := hid_below HB hbx
        clear hbx
        go_wp2
        go_roundw
        case rel => exact ⟨k + 1, by omega, by go_num, B3, HB2⟩
        case measure => simp [intOf]; omega
      · have B3 := Lib.hid (B1.out rfl)
        clear B1 B2
        go_wp2_with fail
        refine (HF.out l0[k] _ _ _ (List.getElem_mem hlt) HP.out HK.out HB.out).mono ?_
        rintro e w' ⟨rfl, hbx⟩
        have HB2 := hid_below HB hbx
        clear hbx
        go_wp2
        go_ret
        obtain rfl := B3.out
        exact ⟨rfl, HB2.out⟩
    · obtain rfl : k = l0.length := by omega
      go_wp2
      go_ret
      exact ⟨by rw [idxO_end HE.out]; rfl, HB.out⟩

end Go.Proofs.YtgcgkcchoghkaaaDoor.G

/- G27 -/
-- Laid by wip/g/gprint.py out of the translation, by the kit's print program. Lean checks it.
namespace Go.Proofs.YtgcgkcchoghkaaaDoor.G
open Go.RowKit Go.Proofs.YtgcgkcchoghkaaaDoorW.PrintWords Go.Proofs.YtgcgkcchoghkaaaDoorW.PrintLast Go.Proofs.YtgcgkcchoghkaaaDoorW.PrintMore
attribute [local go_sem] max2_int min2_int max_two min_two max_three min_three max_four min_four   -- for this text's walks alone
set_option linter.unusedVariables false
set_option linter.unusedSimpArgs false

/-! ### slices_ContainsFunc_simpl_Op_impl_Op: function 27 -/
theorem slices_ContainsFunc_simpl_Op_impl_Op.calls {α : Type} (d : Kd α) (hd : d.sz = 7) (kf : Nat) (hkf : ∀ (zs : Array Value) (W : World), (callFunc kf zs).run Tryd.prog W = .ok (.enter kf zs) W) (caps : Array Value) (p : α → Option Bool) (A0 : Option Addr) (c0 : Nat) (l0 : List α) (r : Int) (w : World) (hr0 : Kd.C d w A0 l0.length l0) (hc0 : l0.length ≤ c0)
    (hf : ∀ (x : α) (cs : List Value) (b : Bool) (W : World), x ∈ l0 → p x = some b → d.K W x cs → Below w.heap.size w W → Calls Tryd.prog kf (#[(.agg (cs).toArray)] ++ caps) W fun e w' => e = .returned (.bool b) ∧ Below W.heap.size W w') (h : idxO p l0 0 = some r) :
    Calls Tryd.prog 27 #[.slice A0 l0.length c0, .func (.func kf) #[] caps] w fun e w' => e = .returned (.bool (decide (0 ≤ r))) ∧ Below w.heap.size w w' := by
  have HR := Lib.hid hr0
  have HF := Lib.hid hf
  have HH := Lib.hid h
  have HD := Lib.hid hd
  clear hr0 hf h hd
  go_enter Tryd.func27, Tryd.ntmps27
  go_wp2_with fail
  refine (slices_IndexFunc_simpl_Op_impl_Op.calls d HD.out kf hkf caps p A0 c0 l0 r _ HR.out hc0 HF.out HH.out).mono ?_
  rintro e w' ⟨rfl, hb⟩
  have HB := Lib.hid hb
  clear hb
  go_wp2
  go_ret
  exact ⟨rfl, HB.out⟩

end Go.Proofs.YtgcgkcchoghkaaaDoor.G

/- G57 -/
-- Laid by wip/g/gprint.py out of the translation, by the kit's print program. Lean checks it.
namespace Go.Proofs.YtgcgkcchoghkaaaDoor.G
open Go.RowKit Go.Proofs.YtgcgkcchoghkaaaDoorW.PrintWords Go.Proofs.YtgcgkcchoghkaaaDoorW.PrintLast Go.Proofs.YtgcgkcchoghkaaaDoorW.PrintMore
attribute [local go_sem] max2_int min2_int max_two min_two max_three min_three max_four min_four   -- for this text's walks alone
set_option linter.unusedVariables false
set_option linter.unusedSimpArgs false

/-! ### slices_IndexFunc_sstring_string: function 57 -/
set_option maxRecDepth 100000 in
theorem slices_IndexFunc_sstring_string.calls {α : Type} (d : Kd α) (hd : d.sz = 1) (kf : Nat) (hkf : ∀ (zs : Array Value) (W : World), (callFunc kf zs).run Tryd.prog W = .ok (.enter kf zs) W) (caps : Array Value) (p : α → Option Bool) (A0 : Option Addr) (c0 : Nat) (l0 : List α) (r : Int) (w : World) (hr0 : Kd.C d w A0 l0.length l0) (hc0 : l0.length ≤ c0)
    (hf : ∀ (x : α) (cs : List Value) (b : Bool) (W : World), x ∈ l0 → p x = some b → d.K W x cs → Below w.heap.size w W → Calls Tryd.prog kf (#[((cs).headD undef)] ++ caps) W fun e w' => e = .returned (.bool b) ∧ Below W.heap.size W w') (h : idxO p l0 0 = some r) :
    Calls Tryd.prog 57 #[.slice A0 l0.length c0, .func (.func kf) #[] caps] w fun e w' => e = .returned (.int .i64 r) ∧ Below w.heap.size w w' := by
  have hm : l0.length ≤ 9223372036854775807 := hr0.2.1
  have HR := Lib.hid hr0
  have HF := Lib.hid hf
  have HH := Lib.hid h
  have HD := Lib.hid hd
  clear hr0 hf h hd
  go_enter Tryd.func57, Tryd.ntmps57
  go_wp2
  go_loopw [5, 8] (fun _ i wr => ∃ k : Nat, k ≤ l0.length ∧ i = .int .i64 k ∧ Hid (idxO p (l0.drop k) k = some r) ∧ Hid (Below w.heap.size w wr)) (fun _ i _ => l0.length - (intOf i).toNat)
  case atStart => exact ⟨0, by omega, rfl, HH, Below.refl _ _⟩
  case round =>
    obtain ⟨k, hk, rfl, HE, HB⟩ := hrel
    by_cases hlt : k < l0.length
    · obtain ⟨b, hp, hb1, hb2⟩ := idxO_step hlt HE.out
      have HP := Lib.hid hp
      have B1 := Lib.hid hb1
      have B2 := Lib.hid hb2
      clear hp hb1 hb2
      obtain ⟨ad, cs, rfl, hcs, hK, hcell⟩ := Kd.C_get HR.out l0[k] (k : Int) (by omega) (by omega)
      rw [HD.out] at hcs hcell
      obtain ⟨y0, rfl⟩ : ∃ y0, cs = [y0] := by match cs, hcs with | [y0], _ => exact ⟨y0, rfl⟩
      clear hcs
      simp only [Int.toNat_natCast, getD_at hlt] at hK hcell
      have HK := Lib.hid (d.K_below HB.out hK)
      clear hK
      have d0 := pw_cell_below HB.out (hcell 0 y0 rfl)
      clear hcell
      simp only [Nat.add_zero, Nat.mul_one] at d0
      cases b
      · have B3 := Lib.hid (B2.out rfl)
        clear B1 B2
        go_wp2_with fail
        refine (HF.out l0[k] _ _ _ (List.getElem_mem hlt) HP.out HK.out HB.out).mono ?_
        rintro e w' ⟨rfl, hbx⟩
        have HB2 := hid_below HB hbx
        clear hbx
        go_wp2
        go_roundw
        case rel => exact ⟨k + 1, by omega, by go_num, B3, HB2⟩
        case measure => simp [intOf]; omega
      · have B3 := Lib.hid (B1.out rfl)
        clear B1 B2
        go_wp2_with fail
        refine (HF.out l0[k] _ _ _ (List.getElem_mem hlt) HP.out HK.out HB.out).mono ?_
        rintro e w' ⟨rfl, hbx⟩
        have HB2 := hid_below HB hbx
        clear hbx
        go_wp2
        go_ret
        obtain rfl := B3.out
        exact ⟨rfl, HB2.out⟩
    · obtain rfl : k = l0.length := by omega
      go_wp2
      go_ret
      exact ⟨by rw [idxO_end HE.out]; rfl, HB.out⟩

end Go.Proofs.YtgcgkcchoghkaaaDoor.G

/- G44 -/
-- Laid by wip/g/gprint.py out of the translation, by the kit's print program. Lean checks it.
namespace Go.Proofs.YtgcgkcchoghkaaaDoor.G
open Go.RowKit Go.Proofs.YtgcgkcchoghkaaaDoorW.PrintWords Go.Proofs.YtgcgkcchoghkaaaDoorW.PrintLast Go.Proofs.YtgcgkcchoghkaaaDoorW.PrintMore
attribute [local go_sem] max2_int min2_int max_two min_two max_three min_three max_four min_four   -- for this text's walks alone
set_option linter.unusedVariables false
set_option linter.unusedSimpArgs false

/-! ### slices_ContainsFunc_sstring_string: function 44 -/
theorem slices_ContainsFunc_sstring_string.calls {α : Type} (d : Kd α) (hd : d.sz = 1) (kf : Nat) (hkf : ∀ (zs : Array Value) (W : World), (callFunc kf zs).run Tryd.prog W = .ok (.enter kf zs) W) (caps : Array Value) (p : α → Option Bool) (A0 : Option Addr) (c0 : Nat) (l0 : List α) (r : Int) (w : World) (hr0 : Kd.C d w A0 l0.length l0) (hc0 : l0.length ≤ c0)
    (hf : ∀ (x : α) (cs : List Value) (b : Bool) (W : World), x ∈ l0 → p x = some b → d.K W x cs → Below w.heap.size w W → Calls Tryd.prog kf (#[((cs).headD undef)] ++ caps) W fun e w' => e = .returned (.bool b) ∧ Below W.heap.size W w') (h : idxO p l0 0 = some r) :
    Calls Tryd.prog 44 #[.slice A0 l0.length c0, .func (.func kf) #[] caps] w fun e w' => e = .returned (.bool (decide (0 ≤ r))) ∧ Below w.heap.size w w' := by
  have HR := Lib.hid hr0
  have HF := Lib.hid hf
  have HH := Lib.hid h
  have HD := Lib.hid hd
  clear hr0 hf h hd
  go_enter Tryd.func44, Tryd.ntmps44
  go_wp2_with fail
  refine (slices_IndexFunc_sstring_string.calls d HD.out kf hkf caps p A0 c0 l0 r _ HR.out hc0 HF.out HH.out).mono ?_
  rintro e w' ⟨rfl, hb⟩
  have HB := Lib.hid hb
  clear hb
  go_wp2
  go_ret
  exact ⟨rfl, HB.out⟩

end Go.Proofs.YtgcgkcchoghkaaaDoor.G

/- G45 -/
-- Laid by wip/g/gprint.py out of the translation, by the kit's print program. Lean checks it.
namespace Go.Proofs.YtgcgkcchoghkaaaDoor.G
open Go.RowKit Go.Proofs.YtgcgkcchoghkaaaDoorW.PrintWords Go.Proofs.YtgcgkcchoghkaaaDoorW.PrintLast Go.Proofs.YtgcgkcchoghkaaaDoorW.PrintMore
attribute [local go_sem] max2_int min2_int max_two min_two max_three min_three max_four min_four   -- for this text's walks alone
set_option linter.unusedVariables false
set_option linter.unusedSimpArgs false

/-! ### impl_opOk_1: function 45 -/
def impl_opOk_1.f (k : Nat) (a0 : ByteArray) : Option (Bool) := (impl_NameOk.f k a0).bind fun t277 => (if t277 = true then (some false) else ((impl_isNumber.f k a0).bind fun t278 => (some (!t278))))
set_option maxHeartbeats 8000000 in
set_option maxRecDepth 100000 in
theorem impl_opOk_1.calls (k : Nat) (a0 : ByteArray) (r : Bool) (w : World) (h : impl_opOk_1.f k a0 = some r) :
    Calls Tryd.prog 45 #[.string a0] w fun e w' => e = .returned (.bool r) ∧ Drawn0 w w' := by
  have H : ((impl_NameOk.f k a0).bind fun t277 => (if t277 = true then (some false) else ((impl_isNumber.f k a0).bind fun t278 => (some (!t278))))) = some r := h
  clear h
  replace H := Option.bind_eq_some_iff.mp H
  obtain ⟨t277, A20, H⟩ := H
  replace H : (if t277 = true then (some false) else ((impl_isNumber.f k a0).bind fun t278 => (some (!t278)))) = some r := H
  have A2 := Aside0.mk A20
  clear A20
  by_cases c3 : t277 = true
  · subst c3
    have H1 : (some false) = some r := by rw [if_pos rfl] at H; exact H
    clear H
    have H := H1
    clear H1
    obtain rfl := Option.some.inj H
    go_enter Tryd.func45, Tryd.ntmps45
    go_wp2_with (first | ((with_reducible refine gate_callee (f := 46) rfl ?_); refine goesL_ (some 4) rfl rfl Tryd.func46 (by kernel_rfl) rfl #[.string a0] rfl (by (try simp only [List.map_toArray, List.map_cons, List.map_nil]); first | done | rfl | (simp only [List.length_drop, List.length_take]; rfl)) ?_; (with_reducible refine (impl_NameOk.calls k a0 true _ A2.out).mono ?_); rintro e w' ⟨rfl, ⟨nd, rfl⟩⟩; refine ⟨_, rfl, ?_⟩))
    go_ret
    exact ⟨by first | rfl | (simp; done) | (simp [*]; done), by repeat (first | exact Drawn0.refl _ | apply Drawn0.step)⟩
  · replace c3 := Bool.eq_false_iff.mpr c3
    subst c3
    have H1 : ((impl_isNumber.f k a0).bind fun t278 => (some (!t278))) = some r := by rw [if_neg (show ¬ (false = true) by decide)] at H; exact H
    clear H
    have H := H1
    clear H1
    replace H := Option.bind_eq_some_iff.mp H
    obtain ⟨t278, A40, H⟩ := H
    replace H : (some (!t278)) = some r := H
    have A4 := Aside0.mk A40
    clear A40
    obtain rfl := Option.some.inj H
    go_enter Tryd.func45, Tryd.ntmps45
    go_wp2_with (first | ((with_reducible refine gate_callee (f := 46) rfl ?_); refine goesL_ (some 4) rfl rfl Tryd.func46 (by kernel_rfl) rfl #[.string a0] rfl (by (try simp only [List.map_toArray, List.map_cons, List.map_nil]); first | done | rfl | (simp only [List.length_drop, List.length_take]; rfl)) ?_; (with_reducible refine (impl_NameOk.calls k a0 false _ A2.out).mono ?_); rintro e w' ⟨rfl, ⟨nd, rfl⟩⟩; refine ⟨_, rfl, ?_⟩) | (go_at_call 47; (with_reducible refine (impl_isNumber.calls k a0 t278 _ A4.out).mono ?_); rintro e w' ⟨rfl, ⟨nd, rfl⟩⟩))
    go_ret
    exact ⟨by first | rfl | (simp; done) | (simp [*]; done), by repeat (first | exact Drawn0.refl _ | apply Drawn0.step)⟩

end Go.Proofs.YtgcgkcchoghkaaaDoor.G

/- G29 -/
-- Laid by wip/g/gprint.py out of the translation, by the kit's print program. Lean checks it.
namespace Go.Proofs.YtgcgkcchoghkaaaDoor.G
open Go.RowKit Go.Proofs.YtgcgkcchoghkaaaDoorW.PrintWords Go.Proofs.YtgcgkcchoghkaaaDoorW.PrintLast Go.Proofs.YtgcgkcchoghkaaaDoorW.PrintMore
attribute [local go_sem] max2_int min2_int max_two min_two max_three min_three max_four min_four   -- for this text's walks alone
set_option linter.unusedVariables false
set_option linter.unusedSimpArgs false

/-! ### slices.ContainsFunc[[]string,string] at loop.example/g00119/impl.opOk$1 -/
def impl_opOk_h45.f (k : Nat) (l0 : List ByteArray) : Option Bool := (idxO (fun x => impl_opOk_1.f k x) l0 0).bind fun i => some (decide (0 ≤ i))
theorem impl_opOk_h45.calls (k : Nat) (A0 : Option Addr) (c0 : Nat) (l0 : List ByteArray) (r : Bool) (w : World) (hr0 : Kd.C Kd.string w A0 l0.length l0) (hc0 : l0.length ≤ c0) (h : impl_opOk_h45.f k l0 = some r) :
  Calls Tryd.prog 44 #[.slice A0 l0.length c0, .func (.func 45) #[] #[]] w fun e w' => e = .returned (.bool r) ∧ Below w.heap.size w w' := by
 unfold impl_opOk_h45.f at h
 obtain ⟨i, hi, hr⟩ := bind_some' h
 cases hr
 refine (slices_ContainsFunc_sstring_string.calls Kd.string rfl 45 (fun _ _ => by kernel_rfl) #[] _ A0 c0 l0 i w hr0 hc0 ?_ hi).mono ?_
 ·intro x cs b W hx hp hk hb
  obtain rfl := hk
  exact (impl_opOk_1.calls k x b W  hp).mono fun e w' h_ => ⟨h_.1, by first | exact h_.2 | exact h_.2.below⟩
 ·rintro e w2 ⟨rfl, hb2⟩
  exact ⟨rfl, hb2⟩
/-! ### impl_opOk: function 29 -/
mutual
def impl_opOk.j0 : Nat → Bool → Int → List ByteArray → Int → ByteArray → Int → List ByteArray → List (S39) → Option (Bool)
 | 0, _, _, _, _, _, _, _, _ => none
 | k + 1, x12, x282000, x282001, x282002, x282003, x282004, x282005, x282006 => if x12 = true then (some false) else (if x282000 = 1 then (impl_opOk.j1 k x282000 (x282000 == 1) x282000 x282001 x282002 x282003 x282004 x282005 x282006) else (impl_opOk.j1 k x282000 (x282000 == 3) x282000 x282001 x282002 x282003 x282004 x282005 x282006))
def impl_opOk.j1 : Nat → Int → Bool → Int → List ByteArray → Int → ByteArray → Int → List ByteArray → List (S39) → Option (Bool)
 | 0, _, _, _, _, _, _, _, _, _ => none
 | k + 1, x14, x15, x282000, x282001, x282002, x282003, x282004, x282005, x282006 => if x15 = true then ((impl_ValueOk.f k x282002 x282003 x282004 x282005 x282006).bind fun t284 => (some t284)) else (if x14 = 2 then ((impl_SameValue.f k x282002 x282003 x282004 x282005 x282006 0 (⟨#[]⟩ : ByteArray) 0 ([] : List ByteArray) ([] : List (S39))).bind fun t285 => (some t285)) else (some false))
end
def impl_opOk.f (k : Nat) (a0_0 : Int) (l0_1 : List ByteArray) (a0_2 : Int) (a0_3 : ByteArray) (a0_4 : Int) (l0_5 : List ByteArray) (l0_6 : List (S39)) : Option (Bool) := (impl_within.f (l0_1.length : Int) 1 5).bind fun t282 => (if t282 = true then ((impl_opOk_h45.f k l0_1).bind fun t283 => (impl_opOk.j0 k t283 a0_0 l0_1 a0_2 a0_3 a0_4 l0_5 l0_6)) else (impl_opOk.j0 k true a0_0 l0_1 a0_2 a0_3 a0_4 l0_5 l0_6))
set_option maxHeartbeats 8000000 in
set_option maxRecDepth 100000 in
theorem impl_opOk.calls (k : Nat) (a0_0 : Int) (A0_1 : Option Addr) (c0_1 : Nat) (l0_1 : List ByteArray) (a0_2 : Int) (a0_3 : ByteArray) (a0_4 : Int) (A0_5 : Option Addr) (c0_5 : Nat) (l0_5 : List ByteArray) (A0_6 : Option Addr) (c0_6 : Nat) (l0_6 : List (S39)) (r : Bool) (w : World) (hr0_1 : Kd.C Kd.string w A0_1 l0_1.length l0_1) (hc0_1 : l0_1.length ≤ c0_1) (hr0_5 : Kd.C Kd.string w A0_5 l0_5.length l0_5) (hc0_5 : l0_5.length ≤ c0_5) (hr0_6 : Kd.C k39 w A0_6 l0_6.length l0_6) (hc0_6 : l0_6.length ≤ c0_6) (h : impl_opOk.f k a0_0 l0_1 a0_2 a0_3 a0_4 l0_5 l0_6 = some r) :
  Calls Tryd.prog 29 #[.agg #[.int .i64 a0_0, .slice A0_1 l0_1.length c0_1, .int .i64 a0_2, .string a0_3, .int .i64 a0_4, .slice A0_5 l0_5.length c0_5, .slice A0_6 l0_6.length c0_6]] w fun e w' => e = .returned (.bool r) ∧ Below w.heap.size w w' := by
 have hu41 := Tryd.underlying41
 have hu39 := Tryd.underlying39
 have HR0_1 := Aside0.mk hr0_1
 have HC0_1 := Aside0.mk hc0_1
 clear hr0_1 hc0_1
 have HR0_5 := Aside0.mk hr0_5
 have HC0_5 := Aside0.mk hc0_5
 clear hr0_5 hc0_5
 have HR0_6 := Aside0.mk hr0_6
 have HC0_6 := Aside0.mk hc0_6
 clear hr0_6 hc0_6
 have HB := Aside0.mk (Below.refl w.heap.size w)
 unfold impl_opOk.f at h; have H := h
 clear h
 have HC2 := Aside0.mk H
 clear H
 go_enter Tryd.func29, Tryd.ntmps29
 go_upto_region 1 with (first | ((with_reducible refine gate_dst (N := 1) rfl ?_); refine box_event ?hg (N := 1) ?hd (cs := #[.int .i64 a0_0, .slice A0_1 l0_1.length c0_1, .int .i64 a0_2, .string a0_3, .int .i64 a0_4, .slice A0_5 l0_5.length c0_5, .slice A0_6 l0_6.length c0_6]) (t := 41) ?hr ?_; (case hd => rfl); (case hg => rfl); (case hr => go_simp); intro gb281 hg w3 hbox hb; have n0_ := Aside0.mk (below_step (qB HB) hb); have n1_ := Aside0.mk (hbox); have n2_ := Aside0.mk (qG HB hg); have n3_ := Aside0.mk (qG HB hg); clear HB; have HB := n0_; have BK281 := n1_; have GW281 := n2_; have GE281 := n3_; clear n0_ n1_ n2_ n3_; clear hb hbox hg))
 (try simp only [Act.put, List.setIfInBounds_toArray, List.set_cons_zero, List.set_cons_succ])
 go_cut [12] (fun v12 wc => ∃ (kq : Nat) (x12_1 : Bool), v12 = .bool x12_1 ∧ Aside0 (impl_opOk.j0 kq x12_1 a0_0 l0_1 a0_2 a0_3 a0_4 l0_5 l0_6 = some r) ∧ Aside0 (kq ≤ k) ∧ Aside0 (wc.heap[gb281]? = some (.cells #[.int .i64 a0_0, (.slice A0_1 l0_1.length c0_1), .int .i64 a0_2, .string a0_3, .int .i64 a0_4, (.slice A0_5 l0_5.length c0_5), (.slice A0_6 l0_6.length c0_6)] 41 (0, 0))) ∧ Aside0 (Below w.heap.size w wc))
 case first =>
  have H := HC2.out
  clear HC2
  replace H := Option.bind_eq_some_iff.mp H
  obtain ⟨t282, A40, H⟩ := H
  try dsimp only at H
  have A4 := Aside0.mk A40
  clear A40
  by_cases c5 : t282 = true
  ·subst c5
   have H1 : ((impl_opOk_h45.f k l0_1).bind fun t283 => (impl_opOk.j0 k t283 a0_0 l0_1 a0_2 a0_3 a0_4 l0_5 l0_6)) = some r := by rw [if_pos rfl] at H; exact H
   clear H
   have H := H1
   clear H1
   replace H := Option.bind_eq_some_iff.mp H
   obtain ⟨t283, A60, H⟩ := H
   try dsimp only at H
   have A6 := Aside0.mk A60
   clear A60
   have H' := Aside0.mk H
   clear H
   obtain ⟨hcz7_0, hcz7_1, hcz7_2, hcz7_3, hcz7_4, hcz7_5, hcz7_6, hfz7_0, hfz7_1, hfz7_2, hfz7_3, hfz7_4, hfz7_5, hfz7_6⟩ := blk7 BK281
   go_wp2_with (first | ((with_reducible refine gate_callee (f := 43) rfl ?_); refine goesL_ (some 6) rfl rfl Tryd.func43 (by kernel_rfl) rfl #[.int .i64 (l0_1.length : Int), .int .i64 1, .int .i64 5] rfl (by (try simp only [List.map_toArray, List.map_cons, List.map_nil]); first | done | rfl | (simp only [List.length_drop, List.length_take]; rfl)) ?_; (with_reducible refine (impl_within.calls (l0_1.length : Int) 1 5 true _ A4.out).mono ?_); rintro e w' ⟨rfl, ⟨nd, rfl⟩⟩; refine ⟨_, rfl, ?_⟩) | (go_at_call 44; (with_reducible refine (impl_opOk_h45.calls k _ _ l0_1 t283 _ (qC HR0_1 HB) HC0_1.out A6.out).mono ?_); rintro e w8 ⟨rfl, hb⟩; have n0_ := Aside0.mk (blk_below (qK BK281) hb); have n1_ := Aside0.mk (below_step (qB HB) hb); clear BK281; clear HB; have BK281 := n0_; have HB := n1_; clear n0_ n1_; (try clear hb); (try clear hb2); (try clear hk); (try clear hi)))
   go_meet
   case rel => exact ⟨_, (t283), (by first | rfl | (simp; done) | (simp [*]; done)), H', ⟨by first | omega | exact Nat.le_refl _⟩, ⟨qK BK281⟩, ⟨qB HB⟩⟩
  ·replace c5 := Bool.eq_false_iff.mpr c5
   subst c5
   have H1 : (impl_opOk.j0 k true a0_0 l0_1 a0_2 a0_3 a0_4 l0_5 l0_6) = some r := by rw [if_neg (show ¬ (false = true) by decide)] at H; exact H
   clear H
   have H := H1
   clear H1
   have H' := Aside0.mk H
   clear H
   obtain ⟨hcz9_0, hcz9_1, hcz9_2, hcz9_3, hcz9_4, hcz9_5, hcz9_6, hfz9_0, hfz9_1, hfz9_2, hfz9_3, hfz9_4, hfz9_5, hfz9_6⟩ := blk7 BK281
   go_wp2_with (first | ((with_reducible refine gate_callee (f := 43) rfl ?_); refine goesL_ (some 6) rfl rfl Tryd.func43 (by kernel_rfl) rfl #[.int .i64 (l0_1.length : Int), .int .i64 1, .int .i64 5] rfl (by (try simp only [List.map_toArray, List.map_cons, List.map_nil]); first | done | rfl | (simp only [List.length_drop, List.length_take]; rfl)) ?_; (with_reducible refine (impl_within.calls (l0_1.length : Int) 1 5 false _ A4.out).mono ?_); rintro e w' ⟨rfl, ⟨nd, rfl⟩⟩; refine ⟨_, rfl, ?_⟩))
   go_meet
   case rel => exact ⟨_, (true), (by first | rfl | (simp; done) | (simp [*]; done)), H', ⟨by first | omega | exact Nat.le_refl _⟩, ⟨qK BK281⟩, ⟨qB HB⟩⟩
 case rest =>
  clear HC2
  try clear c2
  try clear p2
  try clear c4
  try clear c5
  try clear hcz7_0
  try clear hcz7_1
  try clear hcz7_2
  try clear hcz7_3
  try clear hcz7_4
  try clear hcz7_5
  try clear hcz7_6
  try clear hcz9_0
  try clear hcz9_1
  try clear hcz9_2
  try clear hcz9_3
  try clear hcz9_4
  try clear hcz9_5
  try clear hcz9_6
  try clear hfz7_0
  try clear hfz7_1
  try clear hfz7_2
  try clear hfz7_3
  try clear hfz7_4
  try clear hfz7_5
  try clear hfz7_6
  try clear hfz9_0
  try clear hfz9_1
  try clear hfz9_2
  try clear hfz9_3
  try clear hfz9_4
  try clear hfz9_5
  try clear hfz9_6
  obtain ⟨kq, x12_1, rfl, HA, HJ1, BK281, HB⟩ := hcut
  cases kq with
  | zero => exact absurd HA.out (by simp [impl_opOk.j0])
  | succ kj1 =>
   have H := HA.out
   clear HA
   simp only [impl_opOk.j0] at H
   by_cases c10 : x12_1 = true
   ·subst c10
    have H1 : (some false) = some r := by rw [if_pos rfl] at H; exact H
    clear H
    have H := H1
    clear H1
    obtain rfl := Option.some.inj H
    go_wp2
    go_ret
    exact ⟨by first | rfl | (simp [errW_none, errW_some] <;> rfl) | (simp [*, errW_none, errW_some] <;> rfl), by repeat (first | (with_reducible first | exact HB.out | apply below_alloc | apply pw_below_drewN | apply below_drew1 | refine below_set ?_ GE281.out) | exact HB.out)⟩
   ·replace c10 := Bool.eq_false_iff.mpr c10
    subst c10
    have H1 : (if a0_0 = 1 then (impl_opOk.j1 kj1 a0_0 (a0_0 == 1) a0_0 l0_1 a0_2 a0_3 a0_4 l0_5 l0_6) else (impl_opOk.j1 kj1 a0_0 (a0_0 == 3) a0_0 l0_1 a0_2 a0_3 a0_4 l0_5 l0_6)) = some r := by rw [if_neg (show ¬ (false = true) by decide)] at H; exact H
    clear H
    have H := H1
    clear H1
    have HC11 := Aside0.mk H
    clear H
    obtain ⟨hcz12_0, hcz12_1, hcz12_2, hcz12_3, hcz12_4, hcz12_5, hcz12_6, hfz12_0, hfz12_1, hfz12_2, hfz12_3, hfz12_4, hfz12_5, hfz12_6⟩ := blk7 BK281
    go_upto_if 15 with (fail)
    go_cut [15] (fun v15 wc => ∃ (kq : Nat) (x15_10 : Bool), v15 = .bool x15_10 ∧ Aside0 (impl_opOk.j1 kq a0_0 x15_10 a0_0 l0_1 a0_2 a0_3 a0_4 l0_5 l0_6 = some r) ∧ Aside0 (kq ≤ kj1) ∧ Aside0 (wc.heap[gb281]? = some (.cells #[.int .i64 a0_0, (.slice A0_1 l0_1.length c0_1), .int .i64 a0_2, .string a0_3, .int .i64 a0_4, (.slice A0_5 l0_5.length c0_5), (.slice A0_6 l0_6.length c0_6)] 41 (0, 0))) ∧ Aside0 (Below w.heap.size w wc))
    case first =>
     have H := HC11.out
     clear HC11
     by_cases c13 : a0_0 = 1
     ·rw [if_pos c13] at H
      have c13b0 : (a0_0 == 1) = true := beq_iff_eq.mpr c13
      have c13b1 : (a0_0 != 1) = false := bne_eq_false_iff_eq.mpr c13
      clear c13
      (first | rw [c13b0] | (simp only [i64_w, i32_w]; rw [c13b0]) | skip)
      have H' := Aside0.mk H
      clear H
      go_wp2
      go_meet
      case rel => exact ⟨_, ((a0_0 == 1)), (by first | rfl | (simp; done) | (simp [*]; done)), H', ⟨by have := HJ1.out; first | omega | exact Nat.le_refl _⟩, ⟨qK BK281⟩, ⟨qB HB⟩⟩
     ·rw [if_neg c13] at H
      have c13b0 : (a0_0 == 1) = false := beq_eq_false_iff_ne.mpr c13
      have c13b1 : (a0_0 != 1) = true := bne_iff_ne.mpr c13
      (first | rw [c13b0] | (simp only [i64_w, i32_w]; rw [c13b0]) | skip)
      have H' := Aside0.mk H
      clear H
      go_wp2
      go_meet
      case rel => exact ⟨_, ((a0_0 == 3)), (by first | rfl | (simp; done) | (simp [*]; done)), H', ⟨by have := HJ1.out; first | omega | exact Nat.le_refl _⟩, ⟨qK BK281⟩, ⟨qB HB⟩⟩
    case rest =>
     clear HC11
     try clear c1
     try clear c2
     try clear p2
     try clear c4
     try clear c5
     try clear c10
     try clear c13
     try clear c13b0
     try clear c13b1
     try clear hcz12_0
     try clear hcz12_1
     try clear hcz12_2
     try clear hcz12_3
     try clear hcz12_4
     try clear hcz12_5
     try clear hcz12_6
     try clear hcz7_0
     try clear hcz7_1
     try clear hcz7_2
     try clear hcz7_3
     try clear hcz7_4
     try clear hcz7_5
     try clear hcz7_6
     try clear hcz9_0
     try clear hcz9_1
     try clear hcz9_2
     try clear hcz9_3
     try clear hcz9_4
     try clear hcz9_5
     try clear hcz9_6
     try clear hfz12_0
     try clear hfz12_1
     try clear hfz12_2
     try clear hfz12_3
     try clear hfz12_4
     try clear hfz12_5
     try clear hfz12_6
     try clear hfz7_0
     try clear hfz7_1
     try clear hfz7_2
     try clear hfz7_3
     try clear hfz7_4
     try clear hfz7_5
     try clear hfz7_6
     try clear hfz9_0
     try clear hfz9_1
     try clear hfz9_2
     try clear hfz9_3
     try clear hfz9_4
     try clear hfz9_5
     try clear hfz9_6
     try clear p2
     obtain ⟨kq, x15_10, rfl, HA, HJ10, BK281, HB⟩ := hcut
     cases kq with
     | zero => exact absurd HA.out (by simp [impl_opOk.j1])
     | succ kj10 =>
      have H := HA.out
      clear HA
      simp only [impl_opOk.j1] at H
      by_cases c14 : x15_10 = true
      ·subst c14
       have H1 : ((impl_ValueOk.f kj10 a0_2 a0_3 a0_4 l0_5 l0_6).bind fun t284 => (some t284)) = some r := by rw [if_pos rfl] at H; exact H
       clear H
       have H := H1
       clear H1
       replace H := Option.bind_eq_some_iff.mp H
       obtain ⟨t284, A150, H⟩ := H
       try dsimp only at H
       have A15 := Aside0.mk A150
       clear A150
       obtain rfl := Option.some.inj H
       obtain ⟨hcz16_0, hcz16_1, hcz16_2, hcz16_3, hcz16_4, hcz16_5, hcz16_6, hfz16_0, hfz16_1, hfz16_2, hfz16_3, hfz16_4, hfz16_5, hfz16_6⟩ := blk7 BK281
       go_wp2_with (first | ((with_reducible refine gate_callee (f := 33) rfl ?_); refine goesL_ (some 20) rfl rfl Tryd.func33 (by kernel_rfl) rfl #[.agg #[.int .i64 a0_2, .string a0_3, .int .i64 a0_4, .slice A0_5 l0_5.length c0_5, .slice A0_6 l0_6.length c0_6]] rfl (by (try simp only [List.map_toArray, List.map_cons, List.map_nil]); first | done | rfl | (simp only [List.length_drop, List.length_take]; rfl)) ?_; (with_reducible refine (impl_ValueOk.calls kj10 a0_2 a0_3 a0_4 _ _ l0_5 _ _ l0_6 t284 _ (qC HR0_5 HB) HC0_5.out (qC HR0_6 HB) HC0_6.out A15.out).mono ?_); rintro e w17 ⟨rfl, hb⟩; refine ⟨_, rfl, ?_⟩; have n0_ := Aside0.mk (blk_below (qK BK281) hb); have n1_ := Aside0.mk (below_step (qB HB) hb); clear BK281; clear HB; have BK281 := n0_; have HB := n1_; clear n0_ n1_; (try clear hb); (try clear hb2); (try clear hk); (try clear hi)))
       go_ret
       exact ⟨by first | rfl | (simp [errW_none, errW_some] <;> rfl) | (simp [*, errW_none, errW_some] <;> rfl), by repeat (first | (with_reducible first | exact HB.out | apply below_alloc | apply pw_below_drewN | apply below_drew1 | refine below_set ?_ GE281.out) | exact HB.out)⟩
      ·replace c14 := Bool.eq_false_iff.mpr c14
       subst c14
       have H1 : (if a0_0 = 2 then ((impl_SameValue.f kj10 a0_2 a0_3 a0_4 l0_5 l0_6 0 (⟨#[]⟩ : ByteArray) 0 ([] : List ByteArray) ([] : List (S39))).bind fun t285 => (some t285)) else (some false)) = some r := by rw [if_neg (show ¬ (false = true) by decide)] at H; exact H
       clear H
       have H := H1
       clear H1
       by_cases c18 : a0_0 = 2
       ·rw [if_pos c18] at H
        have c18b0 : (a0_0 == 2) = true := beq_iff_eq.mpr c18
        have c18b1 : (a0_0 != 2) = false := bne_eq_false_iff_eq.mpr c18
        clear c18
        replace H := Option.bind_eq_some_iff.mp H
        obtain ⟨t285, A190, H⟩ := H
        try dsimp only at H
        have A19 := Aside0.mk A190
        clear A190
        obtain rfl := Option.some.inj H
        obtain ⟨hcz20_0, hcz20_1, hcz20_2, hcz20_3, hcz20_4, hcz20_5, hcz20_6, hfz20_0, hfz20_1, hfz20_2, hfz20_3, hfz20_4, hfz20_5, hfz20_6⟩ := blk7 BK281
        go_wp2_with (first | ((with_reducible refine gate_callee (f := 48) rfl ?_); refine goesL_ (some 26) rfl rfl Tryd.func48 (by kernel_rfl) rfl #[.agg #[.int .i64 a0_2, .string a0_3, .int .i64 a0_4, .slice A0_5 l0_5.length c0_5, .slice A0_6 l0_6.length c0_6], .agg #[.int .i64 0, .string (⟨#[]⟩ : ByteArray), .int .i64 0, .slice none 0 0, .slice none 0 0]] rfl (by (try simp only [List.map_toArray, List.map_cons, List.map_nil]); first | done | rfl | (simp only [List.length_drop, List.length_take]; rfl)) ?_; (refine (impl_SameValue.calls kj10 a0_2 a0_3 a0_4 _ _ l0_5 _ _ l0_6 0 (⟨#[]⟩ : ByteArray) 0 _ _ ([] : List ByteArray) _ _ ([] : List (S39)) t285 _ ?side1 ?side2 ?side3 ?side4 ?side5 ?side6 ?side7 ?side8 A19.out).mono ?_); (case side1 => exact qC HR0_5 HB); (case side2 => exact HC0_5.out); (case side3 => exact qC HR0_6 HB); (case side4 => exact HC0_6.out); (case side5 => exact Kd.C_nil _ _); (case side6 => exact Nat.le_refl _); (case side7 => exact Kd.C_nil _ _); (case side8 => exact Nat.le_refl _); rintro e w21 ⟨rfl, hb⟩; refine ⟨_, rfl, ?_⟩; have n0_ := Aside0.mk (blk_below (qK BK281) hb); have n1_ := Aside0.mk (below_step (qB HB) hb); clear BK281; clear HB; have BK281 := n0_; have HB := n1_; clear n0_ n1_; (try clear hb); (try clear hb2); (try clear hk); (try clear hi)))
        go_ret
        exact ⟨by first | rfl | (simp [errW_none, errW_some] <;> rfl) | (simp [*, errW_none, errW_some] <;> rfl), by repeat (first | (with_reducible first | exact HB.out | apply below_alloc | apply pw_below_drewN | apply below_drew1 | refine below_set ?_ GE281.out) | exact HB.out)⟩
       ·rw [if_neg c18] at H
        have c18b0 : (a0_0 == 2) = false := beq_eq_false_iff_ne.mpr c18
        have c18b1 : (a0_0 != 2) = true := bne_iff_ne.mpr c18
        obtain rfl := Option.some.inj H
        go_wp2
        go_ret
        exact ⟨by first | rfl | (simp [errW_none, errW_some] <;> rfl) | (simp [*, errW_none, errW_some] <;> rfl), by repeat (first | (with_reducible first | exact HB.out | apply below_alloc | apply pw_below_drewN | apply below_drew1 | refine below_set ?_ GE281.out) | exact HB.out)⟩

end Go.Proofs.YtgcgkcchoghkaaaDoor.G

/- G28 -/
-- Laid by wip/g/gprint.py out of the translation, by the kit's print program. Lean checks it.
namespace Go.Proofs.YtgcgkcchoghkaaaDoor.G
open Go.RowKit Go.Proofs.YtgcgkcchoghkaaaDoorW.PrintWords Go.Proofs.YtgcgkcchoghkaaaDoorW.PrintLast Go.Proofs.YtgcgkcchoghkaaaDoorW.PrintMore
attribute [local go_sem] max2_int min2_int max_two min_two max_three min_three max_four min_four   -- for this text's walks alone
set_option linter.unusedVariables false
set_option linter.unusedSimpArgs false

/-! ### impl_PatchOk_1: function 28 -/
def impl_PatchOk_1.f (k : Nat) (a0_0 : Int) (l0_1 : List ByteArray) (a0_2 : Int) (a0_3 : ByteArray) (a0_4 : Int) (l0_5 : List ByteArray) (l0_6 : List (S39)) : Option (Bool) := (impl_opOk.f k a0_0 l0_1 a0_2 a0_3 a0_4 l0_5 l0_6).bind fun t287 => (some (!t287))
set_option maxHeartbeats 8000000 in
set_option maxRecDepth 100000 in
theorem impl_PatchOk_1.calls (k : Nat) (a0_0 : Int) (A0_1 : Option Addr) (c0_1 : Nat) (l0_1 : List ByteArray) (a0_2 : Int) (a0_3 : ByteArray) (a0_4 : Int) (A0_5 : Option Addr) (c0_5 : Nat) (l0_5 : List ByteArray) (A0_6 : Option Addr) (c0_6 : Nat) (l0_6 : List (S39)) (r : Bool) (w : World) (hr0_1 : Kd.C Kd.string w A0_1 l0_1.length l0_1) (hc0_1 : l0_1.length ≤ c0_1) (hr0_5 : Kd.C Kd.string w A0_5 l0_5.length l0_5) (hc0_5 : l0_5.length ≤ c0_5) (hr0_6 : Kd.C k39 w A0_6 l0_6.length l0_6) (hc0_6 : l0_6.length ≤ c0_6) (h : impl_PatchOk_1.f k a0_0 l0_1 a0_2 a0_3 a0_4 l0_5 l0_6 = some r) :
    Calls Tryd.prog 28 #[.agg #[.int .i64 a0_0, .slice A0_1 l0_1.length c0_1, .int .i64 a0_2, .string a0_3, .int .i64 a0_4, .slice A0_5 l0_5.length c0_5, .slice A0_6 l0_6.length c0_6]] w fun e w' => e = .returned (.bool r) ∧ Below w.heap.size w w' := by
  have hu41 := Tryd.underlying41
  have HR0_1 := Aside0.mk hr0_1
  have HC0_1 := Aside0.mk hc0_1
  clear hr0_1 hc0_1
  have HR0_5 := Aside0.mk hr0_5
  have HC0_5 := Aside0.mk hc0_5
  clear hr0_5 hc0_5
  have HR0_6 := Aside0.mk hr0_6
  have HC0_6 := Aside0.mk hc0_6
  clear hr0_6 hc0_6
  have HB := Aside0.mk (Below.refl w.heap.size w)
  have H : ((impl_opOk.f k a0_0 l0_1 a0_2 a0_3 a0_4 l0_5 l0_6).bind fun t287 => (some (!t287))) = some r := h
  clear h
  replace H := Option.bind_eq_some_iff.mp H
  obtain ⟨t287, A20, H⟩ := H
  replace H : (some (!t287)) = some r := H
  have A2 := Aside0.mk A20
  clear A20
  obtain rfl := Option.some.inj H
  go_enter Tryd.func28, Tryd.ntmps28
  go_wp2_with (first | ((with_reducible refine gate_dst (N := 1) rfl ?_); refine box_event ?hg (N := 1) ?hd (cs := #[.int .i64 a0_0, .slice A0_1 l0_1.length c0_1, .int .i64 a0_2, .string a0_3, .int .i64 a0_4, .slice A0_5 l0_5.length c0_5, .slice A0_6 l0_6.length c0_6]) (t := 41) ?hr ?_; (case hd => rfl); (case hg => rfl); (case hr => first | (go_simp; done) | (go_simp; rfl)); intro gb286 hg w3 hbox hb; have n0_ := Aside0.mk (below_step (by repeat (first | (with_reducible first | exact HB.out | apply below_alloc | apply pw_below_drewN | apply below_drew1) | exact HB.out)) hb); have n1_ := Aside0.mk (hbox); have n2_ := Aside0.mk ((by rw [hg]; exact (below_size (by repeat (first | (with_reducible first | exact HB.out | apply below_alloc | apply pw_below_drewN | apply below_drew1) | exact HB.out))) : w.heap.size ≤ gb286)); have n3_ := Aside0.mk ((by rw [hg]; exact (below_size (by repeat (first | (with_reducible first | exact HB.out | apply below_alloc | apply pw_below_drewN | apply below_drew1) | exact HB.out))) : w.heap.size ≤ gb286)); clear HB; have HB := n0_; have BK286 := n1_; have GW286 := n2_; have GE286 := n3_; clear n0_ n1_ n2_ n3_; clear hb hbox hg; have hcz4_0 : w3.cell? ⟨gb286, 0, none⟩ = some (.int .i64 a0_0) := (blk_cell BK286.out 0).trans rfl; have hcz4_1 : w3.cell? ⟨gb286, 1, none⟩ = some (.slice A0_1 l0_1.length c0_1) := (blk_cell BK286.out 1).trans rfl; have hcz4_2 : w3.cell? ⟨gb286, 2, none⟩ = some (.int .i64 a0_2) := (blk_cell BK286.out 2).trans rfl; have hcz4_3 : w3.cell? ⟨gb286, 3, none⟩ = some (.string a0_3) := (blk_cell BK286.out 3).trans rfl; have hcz4_4 : w3.cell? ⟨gb286, 4, none⟩ = some (.int .i64 a0_4) := (blk_cell BK286.out 4).trans rfl; have hcz4_5 : w3.cell? ⟨gb286, 5, none⟩ = some (.slice A0_5 l0_5.length c0_5) := (blk_cell BK286.out 5).trans rfl; have hcz4_6 : w3.cell? ⟨gb286, 6, none⟩ = some (.slice A0_6 l0_6.length c0_6) := (blk_cell BK286.out 6).trans rfl; have hfz4_0 := blk_frozen BK286.out 0; have hfz4_1 := blk_frozen BK286.out 1; have hfz4_2 := blk_frozen BK286.out 2; have hfz4_3 := blk_frozen BK286.out 3; have hfz4_4 := blk_frozen BK286.out 4; have hfz4_5 := blk_frozen BK286.out 5; have hfz4_6 := blk_frozen BK286.out 6) | ((with_reducible refine gate_callee (f := 29) rfl ?_); refine goesL_ (some 4) rfl rfl Tryd.func29 (by kernel_rfl) rfl #[.agg #[.int .i64 a0_0, .slice A0_1 l0_1.length c0_1, .int .i64 a0_2, .string a0_3, .int .i64 a0_4, .slice A0_5 l0_5.length c0_5, .slice A0_6 l0_6.length c0_6]] rfl (by (try simp only [List.map_toArray, List.map_cons, List.map_nil]); first | done | rfl | (simp only [List.length_drop, List.length_take]; rfl)) ?_; (with_reducible refine (impl_opOk.calls k a0_0 _ _ l0_1 a0_2 a0_3 a0_4 _ _ l0_5 _ _ l0_6 t287 _ ?side1 ?side2 ?side3 ?side4 ?side5 ?side6 A2.out).mono ?_); (case side1 => repeat (first | exact (Kd.C_below HR0_1.out HB.out) | (with_reducible refine Kd.C_alloc ?_ _) | (with_reducible refine Kd.C_drewN ?_ _) | (with_reducible refine Kd.C_drew ?_))); (case side2 => exact HC0_1.out); (case side3 => repeat (first | exact (Kd.C_below HR0_5.out HB.out) | (with_reducible refine Kd.C_alloc ?_ _) | (with_reducible refine Kd.C_drewN ?_ _) | (with_reducible refine Kd.C_drew ?_))); (case side4 => exact HC0_5.out); (case side5 => repeat (first | exact (Kd.C_below HR0_6.out HB.out) | (with_reducible refine Kd.C_alloc ?_ _) | (with_reducible refine Kd.C_drewN ?_ _) | (with_reducible refine Kd.C_drew ?_))); (case side6 => exact HC0_6.out); rintro e w5 ⟨rfl, hb⟩; refine ⟨_, rfl, ?_⟩; have n0_ := Aside0.mk (blk_below (g := gb286) (o := .cells #[.int .i64 a0_0, .slice A0_1 l0_1.length c0_1, .int .i64 a0_2, .string a0_3, .int .i64 a0_4, .slice A0_5 l0_5.length c0_5, .slice A0_6 l0_6.length c0_6] 41 (0, 0)) (by (with_reducible repeat (first | refine blk_drewN ?_ _ | refine blk_drew ?_ | refine blk_alloc ?_ _)); exact BK286.out) hb); have n1_ := Aside0.mk (below_step (by repeat (first | (with_reducible first | exact HB.out | apply below_alloc | apply pw_below_drewN | apply below_drew1 | refine below_set ?_ GE286.out) | exact HB.out)) hb); clear BK286; clear HB; have BK286 := n0_; have HB := n1_; clear n0_ n1_; (try clear hb); (try clear hb2); (try clear hk); (try clear hi)))
  go_ret
  exact ⟨by first | rfl | (simp [errW_none, errW_some] <;> rfl) | (simp [*, errW_none, errW_some] <;> rfl), by repeat (first | (with_reducible first | exact HB.out | apply below_alloc | apply pw_below_drewN | apply below_drew1 | refine below_set ?_ GE286.out) | exact HB.out)⟩

end Go.Proofs.YtgcgkcchoghkaaaDoor.G

/- G13 -/
-- Laid by wip/g/gprint.py out of the translation, by the kit's print program. Lean checks it.
namespace Go.Proofs.YtgcgkcchoghkaaaDoor.G
open Go.RowKit Go.Proofs.YtgcgkcchoghkaaaDoorW.PrintWords Go.Proofs.YtgcgkcchoghkaaaDoorW.PrintLast Go.Proofs.YtgcgkcchoghkaaaDoorW.PrintMore
attribute [local go_sem] max2_int min2_int max_two min_two max_three min_three max_four min_four   -- for this text's walks alone
set_option linter.unusedVariables false
set_option linter.unusedSimpArgs false

/-! ### slices.ContainsFunc[[]loop.example/g00119/impl.Op,loop.example/g00119/impl.Op] at loop.example/g00119/impl.PatchOk$1 -/
def impl_PatchOk_h28.f (k : Nat) (l0 : List (S41)) : Option Bool := (idxO (fun x => impl_PatchOk_1.f k x.f0 x.f1 x.f2.f0 x.f2.f1 x.f2.f2 x.f2.f3 x.f2.f4) l0 0).bind fun i => some (decide (0 ≤ i))
theorem impl_PatchOk_h28.calls (k : Nat) (A0 : Option Addr) (c0 : Nat) (l0 : List (S41)) (r : Bool) (w : World) (hr0 : Kd.C k41 w A0 l0.length l0) (hc0 : l0.length ≤ c0) (h : impl_PatchOk_h28.f k l0 = some r) :
    Calls Tryd.prog 27 #[.slice A0 l0.length c0, .func (.func 28) #[] #[]] w fun e w' => e = .returned (.bool r) ∧ Below w.heap.size w w' := by
  unfold impl_PatchOk_h28.f at h
  obtain ⟨i, hi, hr⟩ := bind_some' h
  cases hr
  refine (slices_ContainsFunc_simpl_Op_impl_Op.calls k41 rfl 28 (fun _ _ => by kernel_rfl) #[] _ A0 c0 l0 i w hr0 hc0 ?_ hi).mono ?_
  · intro x cs b W hx hp hk hb
    obtain ⟨A1, c1, A5, c5, A6, c6, rfl, l1, q1, l5, q5, l6, q6⟩ := k41_open hk
    exact (impl_PatchOk_1.calls k x.f0 A1 c1 x.f1 x.f2.f0 x.f2.f1 x.f2.f2 A5 c5 x.f2.f3 A6 c6 x.f2.f4 b W q1 l1 q5 l5 q6 l6 hp).mono fun e w' h_ => ⟨h_.1, by first | exact h_.2 | exact h_.2.below⟩
  · rintro e w2 ⟨rfl, hb2⟩
    exact ⟨rfl, hb2⟩
/-! ### impl_PatchOk: function 13 -/
def impl_PatchOk.f (k : Nat) (l0 : List (S41)) : Option (Bool) := if (l0.length : Int) ≤ 20 then ((impl_PatchOk_h28.f k l0).bind fun t288 => (some (!t288))) else (some false)
set_option maxHeartbeats 8000000 in
set_option maxRecDepth 100000 in
theorem impl_PatchOk.calls (k : Nat) (A0 : Option Addr) (c0 : Nat) (l0 : List (S41)) (r : Bool) (w : World) (hr0 : Kd.C k41 w A0 l0.length l0) (hc0 : l0.length ≤ c0) (h : impl_PatchOk.f k l0 = some r) :
    Calls Tryd.prog 13 #[.slice A0 l0.length c0] w fun e w' => e = .returned (.bool r) ∧ Below w.heap.size w w' := by
  have HR0 := Aside0.mk hr0
  have HC0 := Aside0.mk hc0
  clear hr0 hc0
  have HB := Aside0.mk (Below.refl w.heap.size w)
  have H : (if (l0.length : Int) ≤ 20 then ((impl_PatchOk_h28.f k l0).bind fun t288 => (some (!t288))) else (some false)) = some r := h
  clear h
  by_cases c2 : (l0.length : Int) ≤ 20
  · rw [if_pos c2] at H
    have c2b0 : decide ((l0.length : Int) ≤ 20) = true := decide_eq_true c2
    have c2b1 : decide (l0.length ≤ 20) = true := decide_eq_true (by omega)
    clear c2
    replace H := Option.bind_eq_some_iff.mp H
    obtain ⟨t288, A30, H⟩ := H
    replace H : (some (!t288)) = some r := H
    have A3 := Aside0.mk A30
    clear A30
    obtain rfl := Option.some.inj H
    go_enter Tryd.func13, Tryd.ntmps13
    go_wp2_with (first | (go_at_call 27; (with_reducible refine (impl_PatchOk_h28.calls k _ _ l0 t288 _ ?side1 ?side2 A3.out).mono ?_); (case side1 => repeat (first | exact HR0.out | (with_reducible refine Kd.C_alloc ?_ _) | (with_reducible refine Kd.C_drewN ?_ _) | (with_reducible refine Kd.C_drew ?_))); (case side2 => exact HC0.out); rintro e w4 ⟨rfl, hb⟩; have n0_ := Aside0.mk (below_step (by repeat (first | (with_reducible first | exact HB.out | apply below_alloc | apply pw_below_drewN | apply below_drew1) | exact HB.out)) hb); clear HB; have HB := n0_; clear n0_; (try clear hb); (try clear hb2); (try clear hk); (try clear hi)))
    go_ret
    exact ⟨by first | rfl | (simp [errW_none, errW_some] <;> rfl) | (simp [*, errW_none, errW_some] <;> rfl), by repeat (first | (with_reducible first | exact HB.out | apply below_alloc | apply pw_below_drewN | apply below_drew1) | exact HB.out)⟩
  · rw [if_neg c2] at H
    have c2b0 : decide ((l0.length : Int) ≤ 20) = false := decide_eq_false c2
    have c2b1 : decide (l0.length ≤ 20) = false := decide_eq_false (by omega)
    clear c2
    obtain rfl := Option.some.inj H
    go_enter Tryd.func13, Tryd.ntmps13
    go_wp2
    go_ret
    exact ⟨by first | rfl | (simp [errW_none, errW_some] <;> rfl) | (simp [*, errW_none, errW_some] <;> rfl), by repeat (first | (with_reducible first | exact HB.out | apply below_alloc | apply pw_below_drewN | apply below_drew1) | exact HB.out)⟩

end Go.Proofs.YtgcgkcchoghkaaaDoor.G

/- POps -/
/-
  Operations: sizes, copies, equality; lists of operations that are right; the law of PatchOk.
-/
namespace Go.Proofs.YtgcgkcchoghkaaaDoor.G
open Go.RowKit Go.Proofs.YtgcgkcchoghkaaaDoorW.PrintWords Go.Proofs.YtgcgkcchoghkaaaDoorW.PrintLast Go.Proofs.YtgcgkcchoghkaaaDoorW.PrintMore
set_option linter.unusedVariables false
set_option linter.unusedSimpArgs false
abbrev LOp := S35
abbrev IOp := S41
theorem rdLO {xs : List LOp} {i : Nat} (h : i < xs.length) : rd_T35 xs (i : Int) = xs[i] := by unfold rd_T35; rw [Int.toNat_natCast]; exact getD_at h _
theorem rdIO {xs : List IOp} {i : Nat} (h : i < xs.length) : rd_T41 xs (i : Int) = xs[i] := by unfold rd_T41; rw [Int.toNat_natCast]; exact getD_at h _
def smStrs (x : List ByteArray) : Prop := x.length ≤ 1048576 ∧ ∀ y ∈ x, y.size ≤ 1048576
def smOpL (x : LOp) : Prop := smStrs x.f1 ∧ ∃ n, wfValN n x.f2 ∧ SmL n x.f2
def smOpI (x : IOp) : Prop := smStrs x.f1 ∧ ∃ n, SmI n x.f2
theorem szOp_tot (x : LOp) (left : Int) (hw : wfOp x) (h0 : 0 ≤ left) (h1 : left ≤ 1048576) : ∃ r, Ev (fun k => laws_szOp.f k x.f0 x.f1 x.f2.f0 x.f2.f1 x.f2.f2 x.f2.f3 x.f2.f4 left) r ∧ Left left (smOpL x) r := by
  obtain ⟨_, hk, n, hn⟩ := hw
  have hz := szStringS_ev x.f1 left ⟨hk.1, hk.2⟩ h0 h1
  have hle := szR_le h0 (totStrs x.f1)
  by_cases c : szR left (totStrs x.f1) < 0
  · exact ⟨-1, by unfold laws_szOp.f; exact Ev.bind hz (ev_if_pos c (Ev.now _)), .inl (by omega)⟩
  · have hsm := strs_small h1 (by omega : 0 ≤ szR left (totStrs x.f1))
    obtain ⟨r, hr, hL⟩ := szValue_tot n x.f2 (szR left (totStrs x.f1)) hn (by omega) (by omega)
    rcases hL with hneg | ⟨hp, hle2, hs⟩
    · exact ⟨-1, by unfold laws_szOp.f; exact Ev.bind hz (ev_if_neg c (Ev.bind hr (ev_if_pos hneg (Ev.now _)))), .inl (by omega)⟩
    · exact ⟨r, by unfold laws_szOp.f; exact Ev.bind hz (ev_if_neg c (Ev.bind hr (ev_if_neg (by omega) (Ev.now _)))), .inr ⟨hp, by omega, hsm, n, hn, hs⟩⟩
theorem szOpS_tot (xs : List LOp) (left : Int) (hl : xs.length ≤ 9223372036854775807) (hw : ∀ x ∈ xs, wfOp x) (h0 : 0 ≤ left) (h1 : left ≤ 1048576) : ∃ r, Ev (fun k => laws_szOpS.f k xs left) r ∧ Left left (xs.length ≤ 1048576 ∧ ∀ x ∈ xs, smOpL x) r := by
  have loop : ∀ (d i : Nat) (left : Int), i + d = xs.length → 0 ≤ left → left ≤ 1048576 → ∃ r, Ev (fun k => laws_szOpS.l0 k xs left i) r ∧ Left left (∀ y ∈ xs.drop i, smOpL y) r := by
    intro d
    induction d with
    | zero =>
      intro i left hi h0 h1
      refine ⟨left, Ev.step (fun k => by rw [laws_szOpS.l0]) (ev_if_neg (by omega) (Ev.now _)), .inr ⟨h0, Int.le_refl _, ?_⟩⟩
      rw [List.drop_of_length_le (by omega)]; intro y hy; cases hy
    | succ d ih =>
      intro i left hid h0 h1
      have hi : i < xs.length := by omega
      obtain ⟨r, hr, hL⟩ := szOp_tot xs[i] left (hw _ (List.getElem_mem hi)) h0 h1
      rcases hL with hneg | ⟨hp, hle, hs⟩
      · refine ⟨-1, Ev.step (fun k => by rw [laws_szOpS.l0]) (ev_if_pos (by omega) (ev_if_pos (by omega) ?_)), .inl (by omega)⟩
        simp only [rdLO hi]
        exact Ev.bind hr (ev_if_pos hneg (Ev.now _))
      · obtain ⟨r2, hr2, hL2⟩ := ih (i + 1) r (by omega) hp (by omega)
        refine ⟨r2, Ev.step (fun k => by rw [laws_szOpS.l0]) (ev_if_pos (by omega) (ev_if_pos (by omega) ?_)), ?_⟩
        · simp only [rdLO hi, wsucc hi hl]
          exact Ev.bind hr (ev_if_neg (by omega) hr2)
        · rcases hL2 with h | ⟨a, b, c⟩
          · exact .inl h
          · refine .inr ⟨a, by omega, ?_⟩
            rw [List.drop_eq_getElem_cons hi]
            intro y hy
            rcases List.mem_cons.1 hy with rfl | hy
            · exact hs
            · exact c y hy
  unfold laws_szOpS.f
  rw [w64 (by omega) (by omega)]
  by_cases c : left - (xs.length : Int) < 0
  · exact ⟨-1, ev_if_pos c (Ev.now _), .inl (by omega)⟩
  · obtain ⟨r, hr, hL⟩ := loop xs.length 0 (left - (xs.length : Int)) (by omega) (by omega) (by omega)
    refine ⟨r, ev_if_neg c hr, ?_⟩
    rcases hL with h | ⟨a, b, hs⟩
    · exact .inl h
    · exact .inr ⟨a, by omega, by omega, fun x hx => hs x (by rw [List.drop_zero]; exact hx)⟩
theorem toOp_tot (x : LOp) (h : smOpL x) : ∃ y : IOp, Ev (fun k => laws_toOp.f k x.f0 x.f1 x.f2.f0 x.f2.f1 x.f2.f2 x.f2.f3 x.f2.f4) (y.f0, y.f1, y.f2.f0, y.f2.f1, y.f2.f2, y.f2.f3, y.f2.f4) ∧ smOpI y := by
  obtain ⟨hs, n, hn, hsm⟩ := h
  obtain ⟨v, hv, hv2⟩ := toValue_tot n x.f2 hn hsm
  refine ⟨⟨x.f0, x.f1, v⟩, ?_, hs, n, hv2⟩
  unfold laws_toOp.f
  exact Ev.bind (toStringS_ev x.f1 hs.1) (Ev.bind hv (Ev.now _))
theorem toOpS_tot (xs : List LOp) (hl : xs.length ≤ 1048576) (hs : ∀ x ∈ xs, smOpL x) : ∃ ys : List IOp, Ev (fun k => laws_toOpS.f k xs) ys ∧ ys.length = xs.length ∧ ∀ y ∈ ys, smOpI y := by
  have loop : ∀ (d i : Nat) (ys : List IOp), i + d = xs.length → ys.length = xs.length → (∀ y ∈ ys.take i, smOpI y) → ∃ zs, Ev (fun k => laws_toOpS.l0 k xs ys i) zs ∧ zs.length = xs.length ∧ ∀ y ∈ zs, smOpI y := by
    intro d
    induction d with
    | zero =>
      intro i ys hi hy hall
      refine ⟨ys, Ev.step (fun k => by rw [laws_toOpS.l0]) (ev_if_neg (by omega) (Ev.now _)), hy, fun y hm => hall y ?_⟩
      rw [List.take_of_length_le (by omega)]; exact hm
    | succ d ih =>
      intro i ys hid hy hall
      have hi : i < xs.length := by omega
      obtain ⟨y, hy1, hy2⟩ := toOp_tot xs[i] (hs _ (List.getElem_mem hi))
      obtain ⟨y0, y1, y2, y3, y4, y5, y6⟩ := y
      obtain ⟨zs, hz, hz1, hz2⟩ := ih (i + 1) (ys.set i ⟨y0, y1, ⟨y2, y3, y4, y5, y6⟩⟩) (by omega) (by simpa using hy) (by
        intro z hz
        rw [take_set_succ _ _ (by omega)] at hz
        rcases List.mem_append.1 hz with h | h
        · exact hall z h
        · rw [List.mem_singleton.1 h]; exact hy2)
      refine ⟨zs, Ev.step (fun k => by rw [laws_toOpS.l0]) (ev_if_pos (by omega) (ev_if_pos (by omega) ?_)), hz1, hz2⟩
      simp only [rdLO hi, wsucc hi (by omega : xs.length ≤ 9223372036854775807)]
      refine Ev.bind hy1 (ev_if_pos (by omega) ?_)
      simp only [Int.toNat_natCast]
      exact hz
  obtain ⟨zs, hz, hz1, hz2⟩ := loop xs.length 0 (List.replicate xs.length z41) (by omega) (by simp) (by intro y hy; simp at hy)
  refine ⟨zs, ?_, hz1, hz2⟩
  unfold laws_toOpS.f
  refine ev_if_pos (by omega) (ev_if_pos (by simp; omega) ?_)
  simp only [Int.toNat_natCast]
  exact hz
theorem eqOp_ev (x : IOp) (h : smOpI x) : Ev (fun k => laws_eqOp.f k x.f0 x.f1 x.f2.f0 x.f2.f1 x.f2.f2 x.f2.f3 x.f2.f4 x.f0 x.f1 x.f2.f0 x.f2.f1 x.f2.f2 x.f2.f3 x.f2.f4) true := by
  obtain ⟨hs, n, hn⟩ := h
  unfold laws_eqOp.f
  exact ev_if_pos rfl (Ev.bind (eqStringS_ev _ (by have := hs.1; omega)) (ev_if_pos rfl (Ev.bind (eqValue_ev n x.f2 hn) (ev_if_pos rfl (Ev.now _)))))
theorem eqOpS_ev (xs : List IOp) (hl : xs.length ≤ 1048576) (hs : ∀ x ∈ xs, smOpI x) : Ev (fun k => laws_eqOpS.f k xs xs) true := by
  unfold laws_eqOpS.f
  refine ev_if_pos rfl ?_
  have := loop_all (g := fun k i => laws_eqOpS.l0 k xs xs i) xs.length (fun _ => true) true (fun i hi _ r hr => ?_) (fun i hi h => by cases h) (Ev.step (fun k => by rw [laws_eqOpS.l0]) (ev_if_neg (by omega) (Ev.now _)))
  · rw [allN_true.2 (fun _ _ => rfl)] at this; exact this
  · refine Ev.step (fun k => by rw [laws_eqOpS.l0]) ?_
    simp only [wsucc hi (by omega : xs.length ≤ 9223372036854775807), rdIO hi]
    exact ev_if_pos (by omega) (ev_if_pos (by omega) (ev_if_pos (by omega) (Ev.bind (eqOp_ev _ (hs _ (List.getElem_mem hi))) (ev_if_pos rfl hr))))
/-! ### operations that are right -/
def wordB (s : ByteArray) : Bool := nameB s || numB s
def pathB (p : List ByteArray) : Bool := inB p.length 1 5 && allN p.length (fun i => wordB (rdOf ByteArray.empty p (i : Nat)))
def zeroV : IVal := ⟨0, ⟨#[]⟩, 0, [], []⟩
noncomputable def opB (x : IOp) : Bool := inB x.f0 1 3 && (pathB x.f1 && (if x.f0 = 2 then same x.f2 zeroV else valB x.f2))
noncomputable def patB (xs : List IOp) : Bool := allN xs.length (fun i => opB (rd_T41 xs (i : Nat))) && decide ((xs.length : Int) ≤ 20)
theorem l5Path_ev (p : List ByteArray) (h : smStrs p) : Ev (fun k => spec_l5Path.f k p) (pathB p) := by
  have hw : wfStrs p := wfStrs_of h
  unfold spec_l5Path.f pathB
  rw [Bool.and_comm]
  refine loop_all (g := fun k i => spec_l5Path.l0 k p i) p.length _ _ ?_ ?_ ?_
  · intro i hi hok r hr
    refine Ev.step (fun k => by rw [spec_l5Path.l0]) ?_
    simp only [wsucc hi hw.1]
    refine ev_if_pos (by omega) (ev_if_pos (by omega) (Ev.bind (specNameOk_ev _ (wfStrs_at hw hi)) (ev_if (fun _ => hr) (fun c => Ev.bind (l4Number_ev _ (wfStrs_at hw hi)) (ev_if_neg ?_ hr)))))
    have : numB (rdOf ByteArray.empty p (i : Nat)) = true := by
      unfold wordB at hok
      rw [Bool.or_eq_true] at hok
      exact hok.resolve_left c
    have := numR_nonneg.2 this
    omega
  · intro i hi hok
    refine Ev.step (fun k => by rw [spec_l5Path.l0]) ?_
    simp only [wordB, Bool.or_eq_false_iff] at hok
    refine ev_if_pos (by omega) (ev_if_pos (by omega) (Ev.bind (specNameOk_ev _ (wfStrs_at hw hi)) (ev_if_neg (by rw [hok.1]; simp) (Ev.bind (l4Number_ev _ (wfStrs_at hw hi)) (ev_if_pos ?_ (Ev.now _))))))
    have : ¬ 0 ≤ numR (rdOf ByteArray.empty p (i : Nat)) := by rw [numR_nonneg, hok.2]; simp
    omega
  · refine Ev.step (fun k => by rw [spec_l5Path.l0]) (ev_if_neg (by omega) ?_)
    simp only [l1In_f, Option.bind_some]
    exact Ev.now _
theorem l5Zero_ev (v : IVal) : Ev (fun _ => spec_l5Zero.f v.f0 v.f1 v.f2 v.f3 v.f4) (same v zeroV) := by
  unfold spec_l5Zero.f
  have no : v ≠ zeroV → Ev (fun _ : Nat => some false) (same v zeroV) := fun h => by rw [same_false.2 h]; exact Ev.now _
  by_cases c0 : v.f0 = 0
  · refine ev_if_pos c0 ?_
    by_cases c1 : v.f1.toList = ([] : List UInt8)
    · refine ev_if_pos c1 ?_
      by_cases c2 : v.f2 = 0
      · refine ev_if_pos c2 ?_
        by_cases c3 : (v.f3.length : Int) = 0
        · refine ev_if_pos c3 (ev_some ?_)
          have h1 : v.f1 = ⟨#[]⟩ := bytes_eq.1 (c1.trans (toList_nil.2 rfl).symm)
          have h3 : v.f3 = [] := List.length_eq_zero_iff.1 (by omega)
          rw [Bool.eq_iff_iff, same_true, val_eq, beq_iff_eq]
          exact ⟨fun h => ⟨c0, h1, c2, h3, List.length_eq_zero_iff.1 (by omega)⟩, fun h => by rw [h.2.2.2.2]; rfl⟩
        · exact ev_if_neg c3 (no (fun e => c3 (by rw [e]; rfl)))
      · exact ev_if_neg c2 (no (fun e => c2 (by rw [e]; rfl)))
    · exact ev_if_neg c1 (no (fun e => c1 (by rw [e]; exact toList_nil.2 rfl)))
  · exact ev_if_neg c0 (no (fun e => c0 (by rw [e]; rfl)))
theorem specPatchOk_ev (xs : List IOp) (hl : xs.length ≤ 1048576) (hs : ∀ x ∈ xs, smOpI x) : Ev (fun k => spec_PatchOk.f k xs) (patB xs) := by
  unfold spec_PatchOk.f patB
  have go : ∀ i, i < xs.length → ∀ r, (opB (rd_T41 xs (i : Nat)) = true → Ev (fun k => spec_PatchOk.l0 k xs ((i + 1 : Nat) : Int)) r) → (opB (rd_T41 xs (i : Nat)) = false → r = false) → Ev (fun k => spec_PatchOk.l0 k xs (i : Nat)) r := by
    intro i hi r hr hf
    have e := rdIO hi
    rw [e] at hr hf
    obtain ⟨hp, n, hn⟩ := hs _ (List.getElem_mem hi)
    refine Ev.step (fun k => by rw [spec_PatchOk.l0]) ?_
    simp only [e, wsucc hi (by omega : xs.length ≤ 9223372036854775807), l1In_f, Option.bind_some]
    refine ev_if_pos (by omega) (ev_if_pos (by omega) ?_)
    generalize xs[i] = x at hr hf hp hn
    have no : ∀ b : Bool, b = true → opB x = false → Ev (fun k => spec_PatchOk.j1 k xs i b x.f0 x.f1 x.f2.f0 x.f2.f1 x.f2.f2 x.f2.f3 x.f2.f4) r := fun b hb h => by
      rw [hf h]
      exact Ev.step (fun k => by rw [spec_PatchOk.j1]) (ev_if_pos hb (Ev.now _))
    cases h1 : inB x.f0 1 3 with
    | false => exact ev_if_neg Bool.false_ne_true (no _ rfl (by simp [opB, h1]))
    | true =>
      refine ev_if_pos rfl (Ev.bind (l5Path_ev x.f1 hp) ?_)
      cases h2 : pathB x.f1 with
      | false => exact no _ rfl (by simp [opB, h1, h2])
      | true =>
        refine Ev.step (fun k => by rw [spec_PatchOk.j1]) (ev_if_neg (by simp) ?_)
        simp only [wsucc hi (by omega : xs.length ≤ 9223372036854775807)]
        by_cases c : x.f0 = 2
        · refine ev_if_pos c (Ev.bind (l5Zero_ev x.f2) ?_)
          cases h3 : same x.f2 zeroV with
          | false => rw [hf (by simp [opB, h1, h2, c, h3])]; exact ev_if_neg Bool.false_ne_true (Ev.now _)
          | true => exact ev_if_pos rfl (hr (by simp [opB, h1, h2, c, h3, inB]))
        · refine ev_if_neg c (Ev.bind (specValueOk_ev x.f2 hn) ?_)
          cases h3 : valB x.f2 with
          | false => rw [hf (by simp [opB, h1, h2, c, h3])]; exact ev_if_neg Bool.false_ne_true (Ev.now _)
          | true => exact ev_if_pos rfl (hr (by simp [opB, h1, h2, c, h3]))
  refine loop_all (g := fun k i => spec_PatchOk.l0 k xs i) xs.length _ _ ?_ ?_ ?_
  · intro i hi hok r hr
    exact go i hi r (fun _ => hr) (fun h => by rw [hok] at h; cases h)
  · intro i hi hok
    exact go i hi false (fun h => by rw [hok] at h; cases h) (fun _ => rfl)
  · exact Ev.step (fun k => by rw [spec_PatchOk.l0]) (ev_if_neg (by omega) (Ev.now _))
theorem opOk_ev (x : IOp) (h : smOpI x) : Ev (fun k => impl_opOk.f k x.f0 x.f1 x.f2.f0 x.f2.f1 x.f2.f2 x.f2.f3 x.f2.f4) (opB x) := by
  obtain ⟨hp, n, hn⟩ := h
  have hw : wfStrs x.f1 := wfStrs_of hp
  unfold impl_opOk.f
  simp only [within_f, Option.bind_some]
  have no : ∀ b : Bool, b = true → pathB x.f1 = false → Ev (fun k => impl_opOk.j0 k b x.f0 x.f1 x.f2.f0 x.f2.f1 x.f2.f2 x.f2.f3 x.f2.f4) (opB x) := fun b hb h => by
    have e : opB x = false := by simp [opB, h]
    rw [e]
    exact Ev.step (fun k => by rw [impl_opOk.j0]) (ev_if_pos hb (Ev.now _))
  cases h1 : inB x.f1.length 1 5 with
  | false => exact ev_if_neg Bool.false_ne_true (no _ rfl (by simp [pathB, h1]))
  | true =>
    refine ev_if_pos rfl ?_
    obtain ⟨r, hr, he⟩ := idxO_ev' (p := fun k (s : ByteArray) => impl_opOk_1.f k s) (q := fun s => !wordB s) x.f1 0 (fun s hs => by
      have h2 := hw.2 s hs
      unfold impl_opOk_1.f
      refine Ev.bind (implNameOk_ev s h2) ?_
      unfold wordB
      cases nameB s with
      | true => exact ev_if_pos rfl (ev_some (by simp))
      | false => exact ev_if_neg Bool.false_ne_true (Ev.bind (isNumber_ev s h2) (ev_some (by simp))))
    refine Ev.bind (a := decide (0 ≤ r)) (Ev.congr (fun k => by rw [impl_opOk_h45.f]) (Ev.bind hr (Ev.now _))) ?_
    rw [he]
    have hall : pathB x.f1 = !x.f1.any (fun s => !wordB s) := by
      unfold pathB
      rw [h1, Bool.true_and, any_allN' x.f1 wordB (fun i => rdOf ByteArray.empty x.f1 (i : Nat)) (fun i hi => rdS hi)]
    cases h2 : x.f1.any (fun s => !wordB s) with
    | true => exact no _ rfl (by rw [hall, h2]; rfl)
    | false =>
      rw [h2] at hall
      refine Ev.step (fun k => by rw [impl_opOk.j0]) (ev_if_neg Bool.false_ne_true ?_)
      have j1 : ∀ b : Bool, b = (x.f0 == 1 || x.f0 == 3) → Ev (fun k => impl_opOk.j1 k x.f0 b x.f0 x.f1 x.f2.f0 x.f2.f1 x.f2.f2 x.f2.f3 x.f2.f4) (opB x) := by
        intro b hb
        refine Ev.step (fun k => by rw [impl_opOk.j1]) ?_
        cases b with
        | true =>
          refine ev_if_pos rfl (Ev.bind (implValueOk_ev x.f2 hn) (ev_some ?_))
          have : x.f0 = 1 ∨ x.f0 = 3 := by simpa using hb.symm
          unfold opB inB
          rw [hall, if_neg (by omega), decide_eq_true (by omega)]; rfl
        | false =>
          have hb' : ¬ (x.f0 = 1 ∨ x.f0 = 3) := by simpa using hb.symm
          refine ev_if_neg Bool.false_ne_true ?_
          by_cases c : x.f0 = 2
          · refine ev_if_pos c (Ev.bind (implSame_ev n x.f2 zeroV hn) (ev_some ?_))
            unfold opB inB
            rw [hall, if_pos c, decide_eq_true (by omega)]; rfl
          · refine ev_if_neg c (ev_some ?_)
            unfold opB inB
            rw [decide_eq_false (by omega), Bool.false_and]
      exact ev_if (fun c => j1 _ (by simp [c])) (fun c => j1 _ (by simp [c]))
theorem implPatchOk_ev (xs : List IOp) (hl : xs.length ≤ 1048576) (hs : ∀ x ∈ xs, smOpI x) : Ev (fun k => impl_PatchOk.f k xs) (patB xs) := by
  unfold impl_PatchOk.f patB
  by_cases c : (xs.length : Int) ≤ 20
  · rw [decide_eq_true c, Bool.and_true]
    refine ev_if_pos c ?_
    obtain ⟨r, hr, he⟩ := idxO_ev' (p := fun k (x : IOp) => impl_PatchOk_1.f k x.f0 x.f1 x.f2.f0 x.f2.f1 x.f2.f2 x.f2.f3 x.f2.f4) (q := fun x => !opB x) xs 0 (fun x hx => by
      unfold impl_PatchOk_1.f
      exact Ev.bind (opOk_ev x (hs x hx)) (Ev.now _))
    refine Ev.bind (a := decide (0 ≤ r)) (Ev.congr (fun k => by rw [impl_PatchOk_h28.f]) (Ev.bind hr (Ev.now _))) (ev_some ?_)
    rw [he, any_allN' xs opB (fun i => rd_T41 xs (i : Nat)) (fun i hi => rdIO hi)]
  · rw [decide_eq_false c, Bool.and_false]
    exact ev_if_neg c (Ev.now _)
end Go.Proofs.YtgcgkcchoghkaaaDoor.G
