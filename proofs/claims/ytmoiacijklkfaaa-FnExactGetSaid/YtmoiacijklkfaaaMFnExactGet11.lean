import Derived.Test.YtmoiacijklkfaaaMFnExactGet1
import Derived.Test.YtmoiacijklkfaaaMFnExactGet9
import Derived.Test.YtmoiacijklkfaaaMFnExactGet10
import Derived.Test.YtmoiacijklkfaaaMFnExactGet3
import Derived.Test.YtmoiacijklkfaaaMFnExactGet5
import Derived.Test.YtmoiacijklkfaaaMFnExactGet8
import Derived.Test.YtmoiacijklkfaaaMFnExactGet0
import Derived.Test.YtmoiacijklkfaaaRows
import Derived.WalkKit
import Derived.ProofKit
import Derived.OpenShut
import Derived.ShutString
import Derived.ChangeOld
import Derived.Carry
import Derived.Below
import Derived.Handed
/- G79 -/
-- Laid by wip/g/gprint.py out of the translation, by the kit's print program. Lean checks it.
namespace Go.Proofs.Ytmoiacijklkfaaa.G
open Go.RowKit Go.Proofs.YtmoiacijklkfaaaW.PrintWords Go.Proofs.YtmoiacijklkfaaaW.PrintLast Go.Proofs.YtmoiacijklkfaaaW.PrintMore
attribute [local go_sem] max2_int min2_int max_two min_two max_three min_three max_four min_four   -- for this text's walks alone
set_option linter.unusedVariables false
set_option linter.unusedSimpArgs false

/-! ### laws_heldValue: function 79 -/
def laws_heldValue.f (k : Nat) (a0_0 : Int) (a0_1 : ByteArray) (a0_2 : Int) (l0_3 : List ByteArray) (l0_4 : List (S44)) (a1 : Int) : Option (Int) := (laws_heldStringS.f k l0_3 a1).bind fun t1179 => (if t1179 < 0 then (some (-1)) else ((laws_heldValueS.f k l0_4 t1179).bind fun t1180 => (if t1180 < 0 then (some (-1)) else (some t1180))))
set_option maxHeartbeats 8000000 in
set_option maxRecDepth 100000 in
theorem laws_heldValue.calls (k : Nat) (a0_0 : Int) (a0_1 : ByteArray) (a0_2 : Int) (A0_3 : Option Addr) (c0_3 : Nat) (l0_3 : List ByteArray) (A0_4 : Option Addr) (c0_4 : Nat) (l0_4 : List (S44)) (a1 : Int) (r : Int) (w : World) (hr0_3 : Kd.C Kd.string w A0_3 l0_3.length l0_3) (hc0_3 : l0_3.length ≤ c0_3) (hr0_4 : Kd.C k44 w A0_4 l0_4.length l0_4) (hc0_4 : l0_4.length ≤ c0_4) (h : laws_heldValue.f k a0_0 a0_1 a0_2 l0_3 l0_4 a1 = some r) :
    Calls Try.prog 79 #[.agg #[.int .i64 a0_0, .string a0_1, .int .i64 a0_2, .slice A0_3 l0_3.length c0_3, .slice A0_4 l0_4.length c0_4], .int .i64 a1] w fun e w' => e = .returned (.int .i64 r) ∧ Below w.heap.size w w' := by
  have hu44 := Try.underlying44
  have HR0_3 := Aside0.mk hr0_3
  have HC0_3 := Aside0.mk hc0_3
  clear hr0_3 hc0_3
  have HR0_4 := Aside0.mk hr0_4
  have HC0_4 := Aside0.mk hc0_4
  clear hr0_4 hc0_4
  have HB := Aside0.mk (Below.refl w.heap.size w)
  have H : ((laws_heldStringS.f k l0_3 a1).bind fun t1179 => (if t1179 < 0 then (some (-1)) else ((laws_heldValueS.f k l0_4 t1179).bind fun t1180 => (if t1180 < 0 then (some (-1)) else (some t1180))))) = some r := h
  clear h
  replace H := Option.bind_eq_some_iff.mp H
  obtain ⟨t1179, A30, H⟩ := H
  replace H : (if t1179 < 0 then (some (-1)) else ((laws_heldValueS.f k l0_4 t1179).bind fun t1180 => (if t1180 < 0 then (some (-1)) else (some t1180)))) = some r := H
  have A3 := Aside0.mk A30
  clear A30
  by_cases c4 : t1179 < 0
  · rw [if_pos c4] at H
    have c4b0 : decide (t1179 < 0) = true := decide_eq_true c4
    clear c4
    obtain rfl := Option.some.inj H
    go_enter Try.func79, Try.ntmps79
    go_wp2_with (first | ((with_reducible refine gate_dst (N := 2) rfl ?_); refine box_event ?hg (N := 2) ?hd (cs := #[.int .i64 a0_0, .string a0_1, .int .i64 a0_2, .slice A0_3 l0_3.length c0_3, .slice A0_4 l0_4.length c0_4]) (t := 44) ?hr ?_; (case hd => rfl); (case hg => rfl); (case hr => first | (go_simp; done) | (go_simp; rfl)); intro gb1178 hg w5 hbox hb; have n0_ := Aside0.mk (below_step (by repeat (first | (with_reducible first | exact HB.out | apply below_alloc | apply pw_below_drewN | apply below_drew1) | exact HB.out)) hb); have n1_ := Aside0.mk (hbox); have n2_ := Aside0.mk ((by rw [hg]; exact (below_size (by repeat (first | (with_reducible first | exact HB.out | apply below_alloc | apply pw_below_drewN | apply below_drew1) | exact HB.out))) : w.heap.size ≤ gb1178)); have n3_ := Aside0.mk ((by rw [hg]; exact (below_size (by repeat (first | (with_reducible first | exact HB.out | apply below_alloc | apply pw_below_drewN | apply below_drew1) | exact HB.out))) : w.heap.size ≤ gb1178)); clear HB; have HB := n0_; have BK1178 := n1_; have GW1178 := n2_; have GE1178 := n3_; clear n0_ n1_ n2_ n3_; clear hb hbox hg; have hcz6_0 : w5.cell? ⟨gb1178, 0, none⟩ = some (.int .i64 a0_0) := (blk_cell BK1178.out 0).trans rfl; have hcz6_1 : w5.cell? ⟨gb1178, 1, none⟩ = some (.string a0_1) := (blk_cell BK1178.out 1).trans rfl; have hcz6_2 : w5.cell? ⟨gb1178, 2, none⟩ = some (.int .i64 a0_2) := (blk_cell BK1178.out 2).trans rfl; have hcz6_3 : w5.cell? ⟨gb1178, 3, none⟩ = some (.slice A0_3 l0_3.length c0_3) := (blk_cell BK1178.out 3).trans rfl; have hcz6_4 : w5.cell? ⟨gb1178, 4, none⟩ = some (.slice A0_4 l0_4.length c0_4) := (blk_cell BK1178.out 4).trans rfl; have hfz6_0 := blk_frozen BK1178.out 0; have hfz6_1 := blk_frozen BK1178.out 1; have hfz6_2 := blk_frozen BK1178.out 2; have hfz6_3 := blk_frozen BK1178.out 3; have hfz6_4 := blk_frozen BK1178.out 4) | ((with_reducible refine gate_callee (f := 78) rfl ?_); refine goesL_ (some 8) rfl rfl Try.func78 (by kernel_rfl) rfl #[.slice A0_3 l0_3.length c0_3, .int .i64 a1] rfl (by (try simp only [List.map_toArray, List.map_cons, List.map_nil]); first | done | rfl | (simp only [List.length_drop, List.length_take]; rfl)) ?_; (with_reducible refine (laws_heldStringS.calls k _ _ l0_3 a1 t1179 _ ?side1 ?side2 A3.out).mono ?_); (case side1 => repeat (first | exact (Kd.C_below HR0_3.out HB.out) | (with_reducible refine Kd.C_alloc ?_ _) | (with_reducible refine Kd.C_drewN ?_ _) | (with_reducible refine Kd.C_drew ?_))); (case side2 => exact HC0_3.out); rintro e w7 ⟨rfl, hb⟩; refine ⟨_, rfl, ?_⟩; have n0_ := Aside0.mk (blk_below (g := gb1178) (o := .cells #[.int .i64 a0_0, .string a0_1, .int .i64 a0_2, .slice A0_3 l0_3.length c0_3, .slice A0_4 l0_4.length c0_4] 44 (0, 0)) (by (with_reducible repeat (first | refine blk_drewN ?_ _ | refine blk_drew ?_ | refine blk_alloc ?_ _)); exact BK1178.out) hb); have n1_ := Aside0.mk (below_step (by repeat (first | (with_reducible first | exact HB.out | apply below_alloc | apply pw_below_drewN | apply below_drew1 | refine below_set ?_ GE1178.out) | exact HB.out)) hb); clear BK1178; clear HB; have BK1178 := n0_; have HB := n1_; clear n0_ n1_; (try clear hb); (try clear hb2); (try clear hk); (try clear hi)))
    go_ret
    exact ⟨by first | rfl | (simp [errW_none, errW_some] <;> rfl) | (simp [*, errW_none, errW_some] <;> rfl), by repeat (first | (with_reducible first | exact HB.out | apply below_alloc | apply pw_below_drewN | apply below_drew1 | refine below_set ?_ GE1178.out) | exact HB.out)⟩
  · rw [if_neg c4] at H
    have c4b0 : decide (t1179 < 0) = false := decide_eq_false c4
    clear c4
    replace H := Option.bind_eq_some_iff.mp H
    obtain ⟨t1180, A80, H⟩ := H
    replace H : (if t1180 < 0 then (some (-1)) else (some t1180)) = some r := H
    have A8 := Aside0.mk A80
    clear A80
    by_cases c9 : t1180 < 0
    · rw [if_pos c9] at H
      have c9b0 : decide (t1180 < 0) = true := decide_eq_true c9
      clear c9
      obtain rfl := Option.some.inj H
      go_enter Try.func79, Try.ntmps79
      go_wp2_with (first | ((with_reducible refine gate_dst (N := 2) rfl ?_); refine box_event ?hg (N := 2) ?hd (cs := #[.int .i64 a0_0, .string a0_1, .int .i64 a0_2, .slice A0_3 l0_3.length c0_3, .slice A0_4 l0_4.length c0_4]) (t := 44) ?hr ?_; (case hd => rfl); (case hg => rfl); (case hr => first | (go_simp; done) | (go_simp; rfl)); intro gb1178 hg w10 hbox hb; have n0_ := Aside0.mk (below_step (by repeat (first | (with_reducible first | exact HB.out | apply below_alloc | apply pw_below_drewN | apply below_drew1) | exact HB.out)) hb); have n1_ := Aside0.mk (hbox); have n2_ := Aside0.mk ((by rw [hg]; exact (below_size (by repeat (first | (with_reducible first | exact HB.out | apply below_alloc | apply pw_below_drewN | apply below_drew1) | exact HB.out))) : w.heap.size ≤ gb1178)); have n3_ := Aside0.mk ((by rw [hg]; exact (below_size (by repeat (first | (with_reducible first | exact HB.out | apply below_alloc | apply pw_below_drewN | apply below_drew1) | exact HB.out))) : w.heap.size ≤ gb1178)); clear HB; have HB := n0_; have BK1178 := n1_; have GW1178 := n2_; have GE1178 := n3_; clear n0_ n1_ n2_ n3_; clear hb hbox hg; have hcz11_0 : w10.cell? ⟨gb1178, 0, none⟩ = some (.int .i64 a0_0) := (blk_cell BK1178.out 0).trans rfl; have hcz11_1 : w10.cell? ⟨gb1178, 1, none⟩ = some (.string a0_1) := (blk_cell BK1178.out 1).trans rfl; have hcz11_2 : w10.cell? ⟨gb1178, 2, none⟩ = some (.int .i64 a0_2) := (blk_cell BK1178.out 2).trans rfl; have hcz11_3 : w10.cell? ⟨gb1178, 3, none⟩ = some (.slice A0_3 l0_3.length c0_3) := (blk_cell BK1178.out 3).trans rfl; have hcz11_4 : w10.cell? ⟨gb1178, 4, none⟩ = some (.slice A0_4 l0_4.length c0_4) := (blk_cell BK1178.out 4).trans rfl; have hfz11_0 := blk_frozen BK1178.out 0; have hfz11_1 := blk_frozen BK1178.out 1; have hfz11_2 := blk_frozen BK1178.out 2; have hfz11_3 := blk_frozen BK1178.out 3; have hfz11_4 := blk_frozen BK1178.out 4) | ((with_reducible refine gate_callee (f := 78) rfl ?_); refine goesL_ (some 8) rfl rfl Try.func78 (by kernel_rfl) rfl #[.slice A0_3 l0_3.length c0_3, .int .i64 a1] rfl (by (try simp only [List.map_toArray, List.map_cons, List.map_nil]); first | done | rfl | (simp only [List.length_drop, List.length_take]; rfl)) ?_; (with_reducible refine (laws_heldStringS.calls k _ _ l0_3 a1 t1179 _ ?side1 ?side2 A3.out).mono ?_); (case side1 => repeat (first | exact (Kd.C_below HR0_3.out HB.out) | (with_reducible refine Kd.C_alloc ?_ _) | (with_reducible refine Kd.C_drewN ?_ _) | (with_reducible refine Kd.C_drew ?_))); (case side2 => exact HC0_3.out); rintro e w12 ⟨rfl, hb⟩; refine ⟨_, rfl, ?_⟩; have n0_ := Aside0.mk (blk_below (g := gb1178) (o := .cells #[.int .i64 a0_0, .string a0_1, .int .i64 a0_2, .slice A0_3 l0_3.length c0_3, .slice A0_4 l0_4.length c0_4] 44 (0, 0)) (by (with_reducible repeat (first | refine blk_drewN ?_ _ | refine blk_drew ?_ | refine blk_alloc ?_ _)); exact BK1178.out) hb); have n1_ := Aside0.mk (below_step (by repeat (first | (with_reducible first | exact HB.out | apply below_alloc | apply pw_below_drewN | apply below_drew1 | refine below_set ?_ GE1178.out) | exact HB.out)) hb); clear BK1178; clear HB; have BK1178 := n0_; have HB := n1_; clear n0_ n1_; (try clear hb); (try clear hb2); (try clear hk); (try clear hi); have hcz13_0 : w12.cell? ⟨gb1178, 0, none⟩ = some (.int .i64 a0_0) := (blk_cell BK1178.out 0).trans rfl; have hcz13_1 : w12.cell? ⟨gb1178, 1, none⟩ = some (.string a0_1) := (blk_cell BK1178.out 1).trans rfl; have hcz13_2 : w12.cell? ⟨gb1178, 2, none⟩ = some (.int .i64 a0_2) := (blk_cell BK1178.out 2).trans rfl; have hcz13_3 : w12.cell? ⟨gb1178, 3, none⟩ = some (.slice A0_3 l0_3.length c0_3) := (blk_cell BK1178.out 3).trans rfl; have hcz13_4 : w12.cell? ⟨gb1178, 4, none⟩ = some (.slice A0_4 l0_4.length c0_4) := (blk_cell BK1178.out 4).trans rfl; have hfz13_0 := blk_frozen BK1178.out 0; have hfz13_1 := blk_frozen BK1178.out 1; have hfz13_2 := blk_frozen BK1178.out 2; have hfz13_3 := blk_frozen BK1178.out 3; have hfz13_4 := blk_frozen BK1178.out 4) | ((with_reducible refine gate_callee (f := 85) rfl ?_); refine goesL_ (some 14) rfl rfl Try.func85 (by kernel_rfl) rfl #[.slice A0_4 l0_4.length c0_4, .int .i64 t1179] rfl (by (try simp only [List.map_toArray, List.map_cons, List.map_nil]); first | done | rfl | (simp only [List.length_drop, List.length_take]; rfl)) ?_; (with_reducible refine (laws_heldValueS.calls k _ _ l0_4 t1179 t1180 _ ?side1 ?side2 A8.out).mono ?_); (case side1 => repeat (first | exact (Kd.C_below HR0_4.out HB.out) | (with_reducible refine Kd.C_alloc ?_ _) | (with_reducible refine Kd.C_drewN ?_ _) | (with_reducible refine Kd.C_drew ?_))); (case side2 => exact HC0_4.out); rintro e w14 ⟨rfl, hb⟩; refine ⟨_, rfl, ?_⟩; have n0_ := Aside0.mk (blk_below (g := gb1178) (o := .cells #[.int .i64 a0_0, .string a0_1, .int .i64 a0_2, .slice A0_3 l0_3.length c0_3, .slice A0_4 l0_4.length c0_4] 44 (0, 0)) (by (with_reducible repeat (first | refine blk_drewN ?_ _ | refine blk_drew ?_ | refine blk_alloc ?_ _)); exact BK1178.out) hb); have n1_ := Aside0.mk (below_step (by repeat (first | (with_reducible first | exact HB.out | apply below_alloc | apply pw_below_drewN | apply below_drew1 | refine below_set ?_ GE1178.out) | exact HB.out)) hb); clear BK1178; clear HB; have BK1178 := n0_; have HB := n1_; clear n0_ n1_; (try clear hb); (try clear hb2); (try clear hk); (try clear hi)))
      go_ret
      exact ⟨by first | rfl | (simp [errW_none, errW_some] <;> rfl) | (simp [*, errW_none, errW_some] <;> rfl), by repeat (first | (with_reducible first | exact HB.out | apply below_alloc | apply pw_below_drewN | apply below_drew1 | refine below_set ?_ GE1178.out) | exact HB.out)⟩
    · rw [if_neg c9] at H
      have c9b0 : decide (t1180 < 0) = false := decide_eq_false c9
      clear c9
      obtain rfl := Option.some.inj H
      go_enter Try.func79, Try.ntmps79
      go_wp2_with (first | ((with_reducible refine gate_dst (N := 2) rfl ?_); refine box_event ?hg (N := 2) ?hd (cs := #[.int .i64 a0_0, .string a0_1, .int .i64 a0_2, .slice A0_3 l0_3.length c0_3, .slice A0_4 l0_4.length c0_4]) (t := 44) ?hr ?_; (case hd => rfl); (case hg => rfl); (case hr => first | (go_simp; done) | (go_simp; rfl)); intro gb1178 hg w15 hbox hb; have n0_ := Aside0.mk (below_step (by repeat (first | (with_reducible first | exact HB.out | apply below_alloc | apply pw_below_drewN | apply below_drew1) | exact HB.out)) hb); have n1_ := Aside0.mk (hbox); have n2_ := Aside0.mk ((by rw [hg]; exact (below_size (by repeat (first | (with_reducible first | exact HB.out | apply below_alloc | apply pw_below_drewN | apply below_drew1) | exact HB.out))) : w.heap.size ≤ gb1178)); have n3_ := Aside0.mk ((by rw [hg]; exact (below_size (by repeat (first | (with_reducible first | exact HB.out | apply below_alloc | apply pw_below_drewN | apply below_drew1) | exact HB.out))) : w.heap.size ≤ gb1178)); clear HB; have HB := n0_; have BK1178 := n1_; have GW1178 := n2_; have GE1178 := n3_; clear n0_ n1_ n2_ n3_; clear hb hbox hg; have hcz16_0 : w15.cell? ⟨gb1178, 0, none⟩ = some (.int .i64 a0_0) := (blk_cell BK1178.out 0).trans rfl; have hcz16_1 : w15.cell? ⟨gb1178, 1, none⟩ = some (.string a0_1) := (blk_cell BK1178.out 1).trans rfl; have hcz16_2 : w15.cell? ⟨gb1178, 2, none⟩ = some (.int .i64 a0_2) := (blk_cell BK1178.out 2).trans rfl; have hcz16_3 : w15.cell? ⟨gb1178, 3, none⟩ = some (.slice A0_3 l0_3.length c0_3) := (blk_cell BK1178.out 3).trans rfl; have hcz16_4 : w15.cell? ⟨gb1178, 4, none⟩ = some (.slice A0_4 l0_4.length c0_4) := (blk_cell BK1178.out 4).trans rfl; have hfz16_0 := blk_frozen BK1178.out 0; have hfz16_1 := blk_frozen BK1178.out 1; have hfz16_2 := blk_frozen BK1178.out 2; have hfz16_3 := blk_frozen BK1178.out 3; have hfz16_4 := blk_frozen BK1178.out 4) | ((with_reducible refine gate_callee (f := 78) rfl ?_); refine goesL_ (some 8) rfl rfl Try.func78 (by kernel_rfl) rfl #[.slice A0_3 l0_3.length c0_3, .int .i64 a1] rfl (by (try simp only [List.map_toArray, List.map_cons, List.map_nil]); first | done | rfl | (simp only [List.length_drop, List.length_take]; rfl)) ?_; (with_reducible refine (laws_heldStringS.calls k _ _ l0_3 a1 t1179 _ ?side1 ?side2 A3.out).mono ?_); (case side1 => repeat (first | exact (Kd.C_below HR0_3.out HB.out) | (with_reducible refine Kd.C_alloc ?_ _) | (with_reducible refine Kd.C_drewN ?_ _) | (with_reducible refine Kd.C_drew ?_))); (case side2 => exact HC0_3.out); rintro e w17 ⟨rfl, hb⟩; refine ⟨_, rfl, ?_⟩; have n0_ := Aside0.mk (blk_below (g := gb1178) (o := .cells #[.int .i64 a0_0, .string a0_1, .int .i64 a0_2, .slice A0_3 l0_3.length c0_3, .slice A0_4 l0_4.length c0_4] 44 (0, 0)) (by (with_reducible repeat (first | refine blk_drewN ?_ _ | refine blk_drew ?_ | refine blk_alloc ?_ _)); exact BK1178.out) hb); have n1_ := Aside0.mk (below_step (by repeat (first | (with_reducible first | exact HB.out | apply below_alloc | apply pw_below_drewN | apply below_drew1 | refine below_set ?_ GE1178.out) | exact HB.out)) hb); clear BK1178; clear HB; have BK1178 := n0_; have HB := n1_; clear n0_ n1_; (try clear hb); (try clear hb2); (try clear hk); (try clear hi); have hcz18_0 : w17.cell? ⟨gb1178, 0, none⟩ = some (.int .i64 a0_0) := (blk_cell BK1178.out 0).trans rfl; have hcz18_1 : w17.cell? ⟨gb1178, 1, none⟩ = some (.string a0_1) := (blk_cell BK1178.out 1).trans rfl; have hcz18_2 : w17.cell? ⟨gb1178, 2, none⟩ = some (.int .i64 a0_2) := (blk_cell BK1178.out 2).trans rfl; have hcz18_3 : w17.cell? ⟨gb1178, 3, none⟩ = some (.slice A0_3 l0_3.length c0_3) := (blk_cell BK1178.out 3).trans rfl; have hcz18_4 : w17.cell? ⟨gb1178, 4, none⟩ = some (.slice A0_4 l0_4.length c0_4) := (blk_cell BK1178.out 4).trans rfl; have hfz18_0 := blk_frozen BK1178.out 0; have hfz18_1 := blk_frozen BK1178.out 1; have hfz18_2 := blk_frozen BK1178.out 2; have hfz18_3 := blk_frozen BK1178.out 3; have hfz18_4 := blk_frozen BK1178.out 4) | ((with_reducible refine gate_callee (f := 85) rfl ?_); refine goesL_ (some 14) rfl rfl Try.func85 (by kernel_rfl) rfl #[.slice A0_4 l0_4.length c0_4, .int .i64 t1179] rfl (by (try simp only [List.map_toArray, List.map_cons, List.map_nil]); first | done | rfl | (simp only [List.length_drop, List.length_take]; rfl)) ?_; (with_reducible refine (laws_heldValueS.calls k _ _ l0_4 t1179 t1180 _ ?side1 ?side2 A8.out).mono ?_); (case side1 => repeat (first | exact (Kd.C_below HR0_4.out HB.out) | (with_reducible refine Kd.C_alloc ?_ _) | (with_reducible refine Kd.C_drewN ?_ _) | (with_reducible refine Kd.C_drew ?_))); (case side2 => exact HC0_4.out); rintro e w19 ⟨rfl, hb⟩; refine ⟨_, rfl, ?_⟩; have n0_ := Aside0.mk (blk_below (g := gb1178) (o := .cells #[.int .i64 a0_0, .string a0_1, .int .i64 a0_2, .slice A0_3 l0_3.length c0_3, .slice A0_4 l0_4.length c0_4] 44 (0, 0)) (by (with_reducible repeat (first | refine blk_drewN ?_ _ | refine blk_drew ?_ | refine blk_alloc ?_ _)); exact BK1178.out) hb); have n1_ := Aside0.mk (below_step (by repeat (first | (with_reducible first | exact HB.out | apply below_alloc | apply pw_below_drewN | apply below_drew1 | refine below_set ?_ GE1178.out) | exact HB.out)) hb); clear BK1178; clear HB; have BK1178 := n0_; have HB := n1_; clear n0_ n1_; (try clear hb); (try clear hb2); (try clear hk); (try clear hi)))
      go_ret
      exact ⟨by first | rfl | (simp [errW_none, errW_some] <;> rfl) | (simp [*, errW_none, errW_some] <;> rfl), by repeat (first | (with_reducible first | exact HB.out | apply below_alloc | apply pw_below_drewN | apply below_drew1 | refine below_set ?_ GE1178.out) | exact HB.out)⟩

end Go.Proofs.Ytmoiacijklkfaaa.G

/- PHeldV -/
/-
  Marks are found again: values.
-/
namespace Go.Proofs.Ytmoiacijklkfaaa.G
open Go.RowKit Go.Proofs.YtmoiacijklkfaaaW.PrintWords Go.Proofs.YtmoiacijklkfaaaW.PrintLast Go.Proofs.YtmoiacijklkfaaaW.PrintMore
set_option linter.unusedVariables false
set_option linter.unusedSimpArgs false
theorem heldVals : ∀ (n : Nat) (xs : List IVal) (a : Int), (∀ x ∈ xs, SmI n x) → xs.length ≤ 1048576 → 0 ≤ a → (mkL (mkV n) xs a).2 ≤ 1099511627776 → Ev (fun k => laws_heldValueS.f k (mkL (mkV n) xs a).1 a) (mkL (mkV n) xs a).2
  | 0, xs, a, hs, _, _, _ => by
    have h0 : xs = [] := by
      cases xs with
      | nil => rfl
      | cons x xs => have := hs x (by simp); rw [SmI] at this; exact this.elim
    subst h0
    have e : mkL (mkV 0) ([] : List IVal) a = ([], a) := rfl
    rw [e]
    refine Ev.step (fun k => by rw [laws_heldValueS.f]) ?_
    refine Ev.step (fun k => by rw [laws_heldValueS.l0]) ?_
    exact ev_if_neg (by simp) (ev_some rfl)
  | n + 1, xs, a, hs, hl, h0, h1 => by
    have loop : ∀ (d i : Nat), i + d = xs.length → Ev (fun k => laws_heldValueS.l0 k (mkL (mkV (n + 1)) xs a).1 (mkL (mkV (n + 1)) (xs.take i) a).2 i) (mkL (mkV (n + 1)) xs a).2 := by
      intro d
      induction d with
      | zero =>
        intro i hd
        refine Ev.step (fun k => by rw [laws_heldValueS.l0]) (ev_if_neg (by rw [mkL_len]; omega) (ev_some ?_))
        rw [List.take_of_length_le (by omega)]
      | succ d ih =>
        intro i hd
        have hi : i < xs.length := by omega
        have hi2 : i < (mkL (mkV (n + 1)) xs a).1.length := by rw [mkL_len]; exact hi
        have hle := mkL_take_le (mkV_mono (n + 1)) xs (i + 1) a
        have hk0 := mkL_mono (mkV_mono (n + 1)) (xs.take i) a
        have ih := ih (i + 1) (by omega)
        rw [mkL_next _ _ _ _ hi] at ih hle
        generalize hn : (mkL (mkV (n + 1)) (xs.take i) a).2 = m at *
        have hx := hs _ (List.getElem_mem hi)
        rw [SmI] at hx
        obtain ⟨_, _, hx3, hx4, hxk⟩ := hx
        have hm1 := mkL_mono mkS_mono xs[i].f3 (m + 3)
        have hm2 := mkL_mono (mkV_mono n) xs[i].f4 (mkL mkS xs[i].f3 (m + 3)).2
        have hcnt := mkS_count xs[i].f3 (m + 3)
        have hle2 : (mkL (mkV n) xs[i].f4 (mkL mkS xs[i].f3 (m + 3)).2).2 ≤ (mkL (mkV (n + 1)) xs a).2 := hle
        have hh := heldStrs_ev xs[i].f3 (m + 3) (by omega) (by omega)
        have hv := heldVals n xs[i].f4 (mkL mkS xs[i].f3 (m + 3)).2 hxk hx4 (by omega) (by omega)
        refine Ev.step (fun k => by rw [laws_heldValueS.l0]) (ev_if_pos (by rw [mkL_len]; omega) (ev_if_pos (by omega) ?_))
        rw [rdIV hi2, mkL_get _ _ _ _ hi, hn, wsucc (n := xs.length) hi (by omega)]
        have a1 : wrap64 (m + 1) = m + 1 := w64 (by omega) (by omega)
        have a2 : wrap64 (m + 1 + 1) = m + 2 := by rw [w64 (by omega) (by omega)]; omega
        have a3 : wrap64 (m + 2 + 1) = m + 3 := by rw [w64 (by omega) (by omega)]; omega
        rw [a1, a2, a3]
        refine ev_if_pos rfl (Ev.bind (mt_ev _ (by omega) (by omega)) (ev_if_pos rfl (ev_if_pos rfl (Ev.bind hh (ev_if_neg (by omega) (Ev.bind hv (ev_if_neg (by omega) ?_)))))))
        exact ih
    have h00 := loop xs.length 0 (by omega)
    have e0 : (mkL (mkV (n + 1)) (xs.take 0) a).2 = a := by rw [List.take_zero]; rfl
    rw [e0] at h00
    exact Ev.step (fun k => by rw [laws_heldValueS.f]; rfl) h00
theorem heldValue_ev (n : Nat) (x : IVal) (a : Int) (hx : SmI (n + 1) x) (h0 : 0 ≤ a) (h1 : (mkL (mkV n) x.f4 (mkL mkS x.f3 a).2).2 ≤ 1099511627776) (y0 : Int) (y1 : ByteArray) (y2 : Int) :
    Ev (fun k => laws_heldValue.f k y0 y1 y2 (mkL mkS x.f3 a).1 (mkL (mkV n) x.f4 (mkL mkS x.f3 a).2).1 a) (mkL (mkV n) x.f4 (mkL mkS x.f3 a).2).2 := by
  rw [SmI] at hx
  obtain ⟨_, _, hx3, hx4, hxk⟩ := hx
  have hm1 := mkL_mono mkS_mono x.f3 a
  have hm2 := mkL_mono (mkV_mono n) x.f4 (mkL mkS x.f3 a).2
  have hcnt := mkS_count x.f3 a
  unfold laws_heldValue.f
  exact Ev.bind (heldStrs_ev x.f3 a h0 (by omega)) (ev_if_neg (by omega) (Ev.bind (heldVals n x.f4 _ hxk hx4 (by omega) h1) (ev_if_neg (by omega) (Ev.now _))))
end Go.Proofs.Ytmoiacijklkfaaa.G

/- GKObjMark -/
/-
  An object handed; its marks, and that they are found again; the marks of a base.
-/
namespace Go.Proofs.Ytmoiacijklkfaaa.G
open Go.RowKit Go.Proofs.YtmoiacijklkfaaaW.PrintWords Go.Proofs.YtmoiacijklkfaaaW.PrintLast Go.Proofs.YtmoiacijklkfaaaW.PrintMore
attribute [local go_sem] max2_int min2_int max_two min_two max_three min_three max_four min_four
set_option linter.unusedVariables false
set_option linter.unusedSimpArgs false
/-- An object handed: its rows lie apart, from block b on. -/
def OT (n b : Nat) (w : World) (x : IObj) (A6 : Option Addr) (c6 : Nat) (A10 : Option Addr) (c10 : Nat) (A11 : Option Addr) (c11 : Nat) (A15 : Option Addr) (c15 : Nat) (A16 : Option Addr) (c16 : Nat) (f6 f10 f11 f15 f16 : List Nat) : Prop :=
  Td.string.Row 9 w (.slice A6 x.f6.length c6) x.f6 f6 ∧ Td.string.Row 9 w (.slice A10 x.f7.f3.length c10) x.f7.f3 f10 ∧ (tV n).Row 44 w (.slice A11 x.f7.f4.length c11) x.f7.f4 f11 ∧ Td.string.Row 9 w (.slice A15 x.f8.f3.length c15) x.f8.f3 f15 ∧ (tV n).Row 44 w (.slice A16 x.f8.f4.length c16) x.f8.f4 f16 ∧
  (f6 ++ ((f10 ++ f11) ++ (f15 ++ f16))).Nodup ∧ (∀ k ∈ f6 ++ ((f10 ++ f11) ++ (f15 ++ f16)), b ≤ k ∧ k < w.heap.size)
section
variable {n b : Nat} {w w1 : World} {x : IObj} {A6 : Option Addr} {c6 : Nat} {A10 : Option Addr} {c10 : Nat} {A11 : Option Addr} {c11 : Nat} {A15 : Option Addr} {c15 : Nat} {A16 : Option Addr} {c16 : Nat} {f6 f10 f11 f15 f16 : List Nat}
theorem OT_of {cs : List Value} {fp : List Nat} (h : (tO (n + 1)).T w x cs fp) (hn : fp.Nodup) (hb : ∀ k ∈ fp, b ≤ k) : ∃ A6 c6 A10 c10 A11 c11 A15 c15 A16 c16 f6 f10 f11 f15 f16, cs = obL x (.slice A6 x.f6.length c6) (.slice A10 x.f7.f3.length c10) (.slice A11 x.f7.f4.length c11) (.slice A15 x.f8.f3.length c15) (.slice A16 x.f8.f4.length c16) ∧ fp = f6 ++ ((f10 ++ f11) ++ (f15 ++ f16)) ∧ OT n b w x A6 c6 A10 c10 A11 c11 A15 c15 A16 c16 f6 f10 f11 f15 f16 := by
  have hlt := (tO (n + 1)).T_lt h
  obtain ⟨v6, v10, v11, v15, v16, f6, f10, f11, f15, f16, rfl, rfl, h6, h10, h11, h15, h16⟩ := tO_open5 h
  obtain ⟨A6, c6, rfl⟩ := Td.Row_slice h6
  obtain ⟨A10, c10, rfl⟩ := Td.Row_slice h10
  obtain ⟨A11, c11, rfl⟩ := Td.Row_slice h11
  obtain ⟨A15, c15, rfl⟩ := Td.Row_slice h15
  obtain ⟨A16, c16, rfl⟩ := Td.Row_slice h16
  exact ⟨A6, c6, A10, c10, A11, c11, A15, c15, A16, c16, f6, f10, f11, f15, f16, rfl, rfl, h6, h10, h11, h15, h16, hn, fun k hk => ⟨hb k hk, hlt k hk⟩⟩
theorem OT_K (h : OT n b w x A6 c6 A10 c10 A11 c11 A15 c15 A16 c16 f6 f10 f11 f15 f16) : k46.K w x (obL x (.slice A6 x.f6.length c6) (.slice A10 x.f7.f3.length c10) (.slice A11 x.f7.f4.length c11) (.slice A15 x.f8.f3.length c15) (.slice A16 x.f8.f4.length c16)) := tO_K (tO_mk5 h.1 h.2.1 h.2.2.1 h.2.2.2.1 h.2.2.2.2.1)
theorem OT_move (h : OT n b w x A6 c6 A10 c10 A11 c11 A15 c15 A16 c16 f6 f10 f11 f15 f16) (hm : ∀ k ∈ f6 ++ ((f10 ++ f11) ++ (f15 ++ f16)), w1.heap[k]? = w.heap[k]?) (hz : w.heap.size ≤ w1.heap.size) : OT n b w1 x A6 c6 A10 c10 A11 c11 A15 c15 A16 c16 f6 f10 f11 f15 f16 := by
  obtain ⟨h6, h10, h11, h15, h16, hn, hf⟩ := h
  exact ⟨Td.Row_move h6 (fun k hk => hm k (app5.2 (.inl hk))), Td.Row_move h10 (fun k hk => hm k (app5.2 (.inr (.inl hk)))), Td.Row_move h11 (fun k hk => hm k (app5.2 (.inr (.inr (.inl hk))))), Td.Row_move h15 (fun k hk => hm k (app5.2 (.inr (.inr (.inr (.inl hk)))))), Td.Row_move h16 (fun k hk => hm k (app5.2 (.inr (.inr (.inr (.inr hk)))))), hn, fun k hk => ⟨(hf k hk).1, Nat.lt_of_lt_of_le (hf k hk).2 hz⟩⟩
theorem OT_below (h : OT n b w x A6 c6 A10 c10 A11 c11 A15 c15 A16 c16 f6 f10 f11 f15 f16) (hb : Below w.heap.size w w1) : OT n b w1 x A6 c6 A10 c10 A11 c11 A15 c15 A16 c16 f6 f10 f11 f15 f16 := OT_move h (fun k hk => hb.block k (h.2.2.2.2.2.2 k hk).2) hb.size
theorem OT_kept {S : List Nat} (h : OT n b w x A6 c6 A10 c10 A11 c11 A15 c15 A16 c16 f6 f10 f11 f15 f16) (hk : Kept w w1 (fun k => k ∈ S)) (hs : ∀ k ∈ S, k < b) (hz : w.heap.size ≤ w1.heap.size) : OT n b w1 x A6 c6 A10 c10 A11 c11 A15 c15 A16 c16 f6 f10 f11 f15 f16 :=
  OT_move h (fun k hk' => hk.2 k (h.2.2.2.2.2.2 k hk').2 (fun hm => by have := hs k hm; have := (h.2.2.2.2.2.2 k hk').1; omega)) hz
end
/-- The marks of an object that is handed: where they end. -/
noncomputable def mo1 (n : Nat) (x : IObj) (k : Int) : Int := (mkL mkS x.f6 k).2
noncomputable def mo2 (n : Nat) (x : IObj) (k : Int) : Int := (mkL (mkV n) x.f7.f4 (mkL mkS x.f7.f3 (mo1 n x k)).2).2
noncomputable def mo3 (n : Nat) (x : IObj) (k : Int) : Int := (mkL (mkV n) x.f8.f4 (mkL mkS x.f8.f3 (mo2 n x k)).2).2
theorem mo_le (n : Nat) (x : IObj) (k : Int) : mo1 n x k = k + x.f6.length ∧ mo1 n x k + x.f7.f3.length ≤ mo2 n x k ∧ mo2 n x k + x.f8.f3.length ≤ mo3 n x k := by
  have h1 := mkS_count x.f6 k
  have h2 := mkS_count x.f7.f3 (mo1 n x k)
  have h3 := mkL_mono (mkV_mono n) x.f7.f4 (mkL mkS x.f7.f3 (mo1 n x k)).2
  have h4 := mkS_count x.f8.f3 (mo2 n x k)
  have h5 := mkL_mono (mkV_mono n) x.f8.f4 (mkL mkS x.f8.f3 (mo2 n x k)).2
  refine ⟨h1, ?_, ?_⟩
  · show _ ≤ (mkL (mkV n) x.f7.f4 (mkL mkS x.f7.f3 (mo1 n x k)).2).2
    omega
  · show _ ≤ (mkL (mkV n) x.f8.f4 (mkL mkS x.f8.f3 (mo2 n x k)).2).2
    omega
theorem mo_cnt (n : Nat) (x : IObj) (k : Int) : mo3 n x k ≤ k + ((x.f6.length + (mcI (n + 1) x.f7 + mcI (n + 1) x.f8) : Nat) : Int) := by
  have h1 := mkS_count x.f6 k
  have h2 := marks_cnt n x.f7 (mo1 n x k)
  have h3 := marks_cnt n x.f8 (mo2 n x k)
  have h2' : mo2 n x k ≤ mo1 n x k + mcI (n + 1) x.f7 := h2
  have h3' : mo3 n x k ≤ mo2 n x k + mcI (n + 1) x.f8 := h3
  have h1' : mo1 n x k = k + x.f6.length := h1
  omega
/-- The lists of a marked object, read. -/
def OM (n : Nat) (w : World) (x : IObj) (k : Int) (A6 : Option Addr) (c6 : Nat) (A10 : Option Addr) (c10 : Nat) (A11 : Option Addr) (c11 : Nat) (A15 : Option Addr) (c15 : Nat) (A16 : Option Addr) (c16 : Nat) : Prop :=
  (x.f6.length ≤ c6 ∧ Kd.C Kd.string w A6 x.f6.length (mkL mkS x.f6 k).1) ∧ (x.f7.f3.length ≤ c10 ∧ Kd.C Kd.string w A10 x.f7.f3.length (mkL mkS x.f7.f3 (mo1 n x k)).1) ∧ (x.f7.f4.length ≤ c11 ∧ Kd.C k44 w A11 x.f7.f4.length (mkL (mkV n) x.f7.f4 (mkL mkS x.f7.f3 (mo1 n x k)).2).1) ∧
  (x.f8.f3.length ≤ c15 ∧ Kd.C Kd.string w A15 x.f8.f3.length (mkL mkS x.f8.f3 (mo2 n x k)).1) ∧ (x.f8.f4.length ≤ c16 ∧ Kd.C k44 w A16 x.f8.f4.length (mkL (mkV n) x.f8.f4 (mkL mkS x.f8.f3 (mo2 n x k)).2).1)
theorem OM_below {n : Nat} {w w1 : World} {x : IObj} {k : Int} {A6 : Option Addr} {c6 : Nat} {A10 : Option Addr} {c10 : Nat} {A11 : Option Addr} {c11 : Nat} {A15 : Option Addr} {c15 : Nat} {A16 : Option Addr} {c16 : Nat} (h : OM n w x k A6 c6 A10 c10 A11 c11 A15 c15 A16 c16) (hb : Below w.heap.size w w1) : OM n w1 x k A6 c6 A10 c10 A11 c11 A15 c15 A16 c16 :=
  ⟨⟨h.1.1, Kd.C_below h.1.2 hb⟩, ⟨h.2.1.1, Kd.C_below h.2.1.2 hb⟩, ⟨h.2.2.1.1, Kd.C_below h.2.2.1.2 hb⟩, ⟨h.2.2.2.1.1, Kd.C_below h.2.2.2.1.2 hb⟩, ⟨h.2.2.2.2.1, Kd.C_below h.2.2.2.2.2 hb⟩⟩
theorem str_Cm {w : World} {A : Option Addr} {m c : Nat} {xs : List ByteArray} {f : List Nat} (h : Td.string.Row 9 w (.slice A m c) xs f) (hl : xs.length = m) : m ≤ c ∧ Kd.C Kd.string w A m xs := by
  obtain ⟨_, _, e, l, C⟩ := str_C h
  subst hl
  cases e
  exact ⟨l, C⟩
theorem tV_Cm {n : Nat} {w : World} {A : Option Addr} {m c : Nat} {xs : List TVal} {f : List Nat} (h : (tV n).Row 44 w (.slice A m c) xs f) (hl : xs.length = m) : m ≤ c ∧ Kd.C k44 w A m xs := by
  obtain ⟨_, _, e, l, C⟩ := tV_C h
  subst hl
  cases e
  exact ⟨l, C⟩
set_option maxHeartbeats 16000000 in
set_option maxRecDepth 100000 in
theorem markObj_calls (n b : Nat) (x : IObj) (A6 : Option Addr) (c6 : Nat) (A10 : Option Addr) (c10 : Nat) (A11 : Option Addr) (c11 : Nat) (A15 : Option Addr) (c15 : Nat) (A16 : Option Addr) (c16 : Nat) (f6 f10 f11 f15 f16 : List Nat) (k0 : Int) (w0 w : World) (hB : Below w0.heap.size w0 w) (hO : OT n b w x A6 c6 A10 c10 A11 c11 A15 c15 A16 c16 f6 f10 f11 f15 f16) (hb : w0.heap.size ≤ b) (h0 : 0 ≤ k0) (h1 : mo3 n x k0 ≤ 1099511627776) :
    Calls Try.prog 27 #[.agg #[.int .i64 x.f0, .string x.f1, .int .i64 x.f2, .int .i64 x.f3, .int .i64 x.f4, .bool x.f5, .slice A6 x.f6.length c6, .int .i64 x.f7.f0, .string x.f7.f1, .int .i64 x.f7.f2, .slice A10 x.f7.f3.length c10, .slice A11 x.f7.f4.length c11, .int .i64 x.f8.f0, .string x.f8.f1, .int .i64 x.f8.f2, .slice A15 x.f8.f3.length c15, .slice A16 x.f8.f4.length c16], .int .i64 k0] w fun e w' => e = .returned (.int .i64 (mo3 n x k0)) ∧ OM n w' x k0 A6 c6 A10 c10 A11 c11 A15 c15 A16 c16 ∧ Below w0.heap.size w0 w' ∧ Kept w w' (fun k => k ∈ f6 ++ ((f10 ++ f11) ++ (f15 ++ f16))) := by
  obtain ⟨h6, h10, h11, h15, h16, hn, hf⟩ := hO
  obtain ⟨⟨n6, n10, n11, n15, n16⟩, d6, d10, d11, d15⟩ := nd5 hn
  have hn1 : (f10 ++ f11).Nodup := List.nodup_append.2 ⟨n10, n11, fun a ha b hb e => (d10 a ha).1 (e ▸ hb)⟩
  have hn2 : (f15 ++ f16).Nodup := List.nodup_append.2 ⟨n15, n16, fun a ha b hb e => d15 a ha (e ▸ hb)⟩
  obtain ⟨q1, q2, q3⟩ := mo_le n x k0
  obtain ⟨W1, hW1⟩ : ∃ W1, w.alloc (.cells #[.int .i64 x.f0, .string x.f1, .int .i64 x.f2, .int .i64 x.f3, .int .i64 x.f4, .bool x.f5, .slice A6 x.f6.length c6, .int .i64 x.f7.f0, .string x.f7.f1, .int .i64 x.f7.f2, .slice A10 x.f7.f3.length c10, .slice A11 x.f7.f4.length c11, .int .i64 x.f8.f0, .string x.f8.f1, .int .i64 x.f8.f2, .slice A15 x.f8.f3.length c15, .slice A16 x.f8.f4.length c16] 46) = W1 := ⟨_, rfl⟩
  have hbA := below_alloc (Below.refl w.heap.size w) (.cells #[.int .i64 x.f0, .string x.f1, .int .i64 x.f2, .int .i64 x.f3, .int .i64 x.f4, .bool x.f5, .slice A6 x.f6.length c6, .int .i64 x.f7.f0, .string x.f7.f1, .int .i64 x.f7.f2, .slice A10 x.f7.f3.length c10, .slice A11 x.f7.f4.length c11, .int .i64 x.f8.f0, .string x.f8.f1, .int .i64 x.f8.f2, .slice A15 x.f8.f3.length c15, .slice A16 x.f8.f4.length c16] 46)
  have hb0 := blk_new w (.cells #[.int .i64 x.f0, .string x.f1, .int .i64 x.f2, .int .i64 x.f3, .int .i64 x.f4, .bool x.f5, .slice A6 x.f6.length c6, .int .i64 x.f7.f0, .string x.f7.f1, .int .i64 x.f7.f2, .slice A10 x.f7.f3.length c10, .slice A11 x.f7.f4.length c11, .int .i64 x.f8.f0, .string x.f8.f1, .int .i64 x.f8.f2, .slice A15 x.f8.f3.length c15, .slice A16 x.f8.f4.length c16] 46)
  rw [hW1] at hbA hb0
  have HW1 := Lib.hid hW1
  have HBA := Lib.hid hbA
  have B1 := Lib.hid (below_then hB hB.size hbA)
  have Q1 : Hid (W1.heap[w.heap.size]? = some (.cells (obC x (.slice A6 x.f6.length c6) (.slice A10 x.f7.f3.length c10) (.slice A11 x.f7.f4.length c11) (.slice A15 x.f8.f3.length c15) (.slice A16 x.f8.f4.length c16)) 46 (0, 0))) := Lib.hid hb0
  have R6 := Lib.hid (Td.Row_below h6 hbA)
  have R10 := Lib.hid (Td.Row_below h10 hbA)
  have R11 := Lib.hid (Td.Row_below h11 hbA)
  have R15 := Lib.hid (Td.Row_below h15 hbA)
  have R16 := Lib.hid (Td.Row_below h16 hbA)
  have HF := Lib.hid hf
  have D6 := Lib.hid d6
  have D10 := Lib.hid d10
  have D11 := Lib.hid d11
  have D15 := Lib.hid d15
  have HN1 := Lib.hid hn1
  have HN2 := Lib.hid hn2
  clear hB h6 h10 h11 h15 h16 hn hf n6 n10 n11 n15 n16 d6 d10 d11 d15 hn1 hn2 hW1 hbA hb0
  go_enter Try.func27, Try.ntmps27
  go_wp2_with fail
  rw [HW1.out]
  (with_reducible refine (markStrs_calls x.f6 (.slice A6 x.f6.length c6) f6 k0 w0 W1 B1.out R6.out (fun k hk => Nat.le_trans hb (HF.out k (app5.2 (.inl hk))).1) h0 (by omega)).mono ?_)
  rintro e w2 ⟨rfl, hr6, hb2, hk2⟩
  have hW : ∀ k, k ∈ f6 ++ ((f10 ++ f11) ++ (f15 ++ f16)) → k ≠ w.heap.size := fun k hk => by have := (HF.out k hk).2; omega
  have Q2 := Lib.hid ((hk2.2 _ (blk_lt Q1.out) (fun hm => hW _ (app5.2 (.inl hm)) rfl)).trans Q1.out)
  have S6 := Lib.hid hr6
  have S10 := Lib.hid (Td.Row_move R10.out (fun k hk => hk2.2 k (Td.Row_lt R10.out k hk) (fun hm => (D6.out k hm).1 hk)))
  have S11 := Lib.hid (Td.Row_move R11.out (fun k hk => hk2.2 k (Td.Row_lt R11.out k hk) (fun hm => (D6.out k hm).2.1 hk)))
  have S15 := Lib.hid (Td.Row_move R15.out (fun k hk => hk2.2 k (Td.Row_lt R15.out k hk) (fun hm => (D6.out k hm).2.2.1 hk)))
  have S16 := Lib.hid (Td.Row_move R16.out (fun k hk => hk2.2 k (Td.Row_lt R16.out k hk) (fun hm => (D6.out k hm).2.2.2 hk)))
  have B2 := Lib.hid hb2
  have K2 := Lib.hid (kept_trans (Kept.of_below HBA.out (fun k => k ∈ f6 ++ ((f10 ++ f11) ++ (f15 ++ f16)))) hk2 (fun k hk => .inl (app5.2 (.inl hk))))
  have HWN := Lib.hid hW
  clear hr6 hb2 hk2 R6 R10 R11 R15 R16 Q1 HW1 hW
  obtain ⟨d7, d8, d9, d10, d11⟩ := ob_c7 Q2.out
  go_wp2_with fail
  clear d7 d8 d9 d10 d11
  have gm : (mkL (mkV n) x.f7.f4 (mkL mkS x.f7.f3 (mkL mkS x.f6 k0).2).2).2 ≤ 1099511627776 := by show mo2 n x k0 ≤ _; omega
  have gn1 : 0 ≤ (mkL mkS x.f6 k0).2 := by show 0 ≤ mo1 n x k0; omega
  have gn2 : 0 ≤ (mkL (mkV n) x.f7.f4 (mkL mkS x.f7.f3 (mkL mkS x.f6 k0).2).2).2 := by show 0 ≤ mo2 n x k0; omega
  have gm3 : (mkL (mkV n) x.f8.f4 (mkL mkS x.f8.f3 (mkL (mkV n) x.f7.f4 (mkL mkS x.f7.f3 (mkL mkS x.f6 k0).2).2).2).2).2 ≤ 1099511627776 := h1
  (with_reducible refine (markValue_calls n x.f7 _ _ f10 f11 (mkL mkS x.f6 k0).2 w0 w2 B2.out S10.out S11.out HN1.out (fun k hk => Nat.le_trans hb (HF.out k (app5.2 (by rcases List.mem_append.1 hk with h | h; exact .inr (.inl h); exact .inr (.inr (.inl h))))).1) gn1 gm).mono ?_)
  rintro e w3 ⟨rfl, hr10, hr11, hb3, hk3⟩
  have Q3 := Lib.hid ((hk3.2 _ (blk_lt Q2.out) (fun hm => HWN.out _ (app5.2 (by rcases List.mem_append.1 hm with h | h; exact .inr (.inl h); exact .inr (.inr (.inl h)))) rfl)).trans Q2.out)
  have T6 := Lib.hid (Td.Row_move S6.out (fun k hk => hk3.2 k (Td.Row_lt S6.out k hk) (fun hm => by rcases List.mem_append.1 hm with h | h; exact (D6.out k hk).1 h; exact (D6.out k hk).2.1 h)))
  have T10 := Lib.hid hr10
  have T11 := Lib.hid hr11
  have T15 := Lib.hid (Td.Row_move S15.out (fun k hk => hk3.2 k (Td.Row_lt S15.out k hk) (fun hm => by rcases List.mem_append.1 hm with h | h; exact (D10.out k h).2.1 hk; exact (D11.out k h).1 hk)))
  have T16 := Lib.hid (Td.Row_move S16.out (fun k hk => hk3.2 k (Td.Row_lt S16.out k hk) (fun hm => by rcases List.mem_append.1 hm with h | h; exact (D10.out k h).2.2 hk; exact (D11.out k h).2 hk)))
  have B3 := Lib.hid hb3
  have K3 := Lib.hid (kept_trans K2.out hk3 (fun k hk => .inl (app5.2 (by rcases List.mem_append.1 hk with h | h; exact .inr (.inl h); exact .inr (.inr (.inl h))))))
  clear hr10 hr11 hb3 hk3 S6 S10 S11 S15 S16 Q2 K2 B2
  obtain ⟨d12, d13, d14, d15, d16⟩ := ob_c8 Q3.out
  go_wp2_with fail
  clear d12 d13 d14 d15 d16
  (with_reducible refine (markValue_calls n x.f8 _ _ f15 f16 (mkL (mkV n) x.f7.f4 (mkL mkS x.f7.f3 (mkL mkS x.f6 k0).2).2).2 w0 w3 B3.out T15.out T16.out HN2.out (fun k hk => Nat.le_trans hb (HF.out k (app5.2 (by rcases List.mem_append.1 hk with h | h; exact .inr (.inr (.inr (.inl h))); exact .inr (.inr (.inr (.inr h)))))).1) gn2 gm3).mono ?_)
  rintro e w4 ⟨rfl, hr15, hr16, hb4, hk4⟩
  have U6 := Lib.hid (Td.Row_move T6.out (fun k hk => hk4.2 k (Td.Row_lt T6.out k hk) (fun hm => by rcases List.mem_append.1 hm with h | h; exact (D6.out k hk).2.2.1 h; exact (D6.out k hk).2.2.2 h)))
  have U10 := Lib.hid (Td.Row_move T10.out (fun k hk => hk4.2 k (Td.Row_lt T10.out k hk) (fun hm => by rcases List.mem_append.1 hm with h | h; exact (D10.out k hk).2.1 h; exact (D10.out k hk).2.2 h)))
  have U11 := Lib.hid (Td.Row_move T11.out (fun k hk => hk4.2 k (Td.Row_lt T11.out k hk) (fun hm => by rcases List.mem_append.1 hm with h | h; exact (D11.out k hk).1 h; exact (D11.out k hk).2 h)))
  have U15 := Lib.hid hr15
  have U16 := Lib.hid hr16
  have B4 := Lib.hid hb4
  have K4 := Lib.hid (kept_trans K3.out hk4 (fun k hk => .inl (app5.2 (by rcases List.mem_append.1 hk with h | h; exact .inr (.inr (.inr (.inl h))); exact .inr (.inr (.inr (.inr h)))))))
  clear hr15 hr16 hb4 hk4 T6 T10 T11 T15 T16 Q3 K3 B3
  go_wp2
  go_ret
  exact ⟨rfl, ⟨str_Cm U6.out (mkL_len _ _ _), str_Cm U10.out (mkL_len _ _ _), tV_Cm U11.out (mkL_len _ _ _), str_Cm U15.out (mkL_len _ _ _), tV_Cm U16.out (mkL_len _ _ _)⟩, B4.out, K4.out⟩
set_option maxHeartbeats 16000000 in
set_option maxRecDepth 100000 in
theorem heldY (m : Nat) (R : IVal) (Q3 : Option Addr) (q3 : Nat) (Q4 : Option Addr) (q4 : Nat) (a : Int) (w : World) (hs : SmI (m + 1) R) (h0 : 0 ≤ a) (h1 : (mkL (mkV m) R.f4 (mkL mkS R.f3 a).2).2 ≤ 1099511627776) (C3 : Kd.C Kd.string w Q3 R.f3.length (mkL mkS R.f3 a).1) (l3 : R.f3.length ≤ q3) (C4 : Kd.C k44 w Q4 R.f4.length (mkL (mkV m) R.f4 (mkL mkS R.f3 a).2).1) (l4 : R.f4.length ≤ q4) :
    Calls Try.prog 79 #[.agg #[.int .i64 R.f0, .string R.f1, .int .i64 R.f2, .slice Q3 R.f3.length q3, .slice Q4 R.f4.length q4], .int .i64 a] w fun e w' => e = .returned (.int .i64 (mkL (mkV m) R.f4 (mkL mkS R.f3 a).2).2) ∧ Below w.heap.size w w' := by
  obtain ⟨K, hK⟩ := heldValue_ev m R a hs h0 h1 R.f0 R.f1 R.f2
  have L3 : (mkL mkS R.f3 a).1.length = R.f3.length := mkL_len _ _ _
  have L4 : (mkL (mkV m) R.f4 (mkL mkS R.f3 a).2).1.length = R.f4.length := mkL_len _ _ _
  have hk := laws_heldValue.calls K R.f0 R.f1 R.f2 Q3 q3 (mkL mkS R.f3 a).1 Q4 q4 (mkL (mkV m) R.f4 (mkL mkS R.f3 a).2).1 a _ w (by rw [L3]; exact C3) (by rw [L3]; exact l3) (by rw [L4]; exact C4) (by rw [L4]; exact l4) (hK K (Nat.le_refl _))
  rw [L3, L4] at hk
  exact hk
theorem heldS (xs : List ByteArray) (Q : Option Addr) (q : Nat) (a : Int) (w : World) (h0 : 0 ≤ a) (h1 : a + xs.length ≤ 1099511627776) (C : Kd.C Kd.string w Q xs.length (mkL mkS xs a).1) (l : xs.length ≤ q) :
    Calls Try.prog 78 #[.slice Q xs.length q, .int .i64 a] w fun e w' => e = .returned (.int .i64 (mkL mkS xs a).2) ∧ Below w.heap.size w w' := by
  obtain ⟨K, hK⟩ := heldStrs_ev xs a h0 h1
  have L : (mkL mkS xs a).1.length = xs.length := mkL_len _ _ _
  have hk := laws_heldStringS.calls K Q q (mkL mkS xs a).1 a _ w (by rw [L]; exact C) (by rw [L]; exact l) (hK K (Nat.le_refl _))
  rw [L] at hk
  exact hk
set_option maxHeartbeats 16000000 in
set_option maxRecDepth 100000 in
theorem heldObj_calls (n : Nat) (x : IObj) (A6 : Option Addr) (c6 : Nat) (A10 : Option Addr) (c10 : Nat) (A11 : Option Addr) (c11 : Nat) (A15 : Option Addr) (c15 : Nat) (A16 : Option Addr) (c16 : Nat) (k0 : Int) (w : World) (hO : OM n w x k0 A6 c6 A10 c10 A11 c11 A15 c15 A16 c16) (hs7 : SmI (n + 1) x.f7) (hs8 : SmI (n + 1) x.f8) (h0 : 0 ≤ k0) (h1 : mo3 n x k0 ≤ 1099511627776) :
    Calls Try.prog 28 #[.agg #[.int .i64 x.f0, .string x.f1, .int .i64 x.f2, .int .i64 x.f3, .int .i64 x.f4, .bool x.f5, .slice A6 x.f6.length c6, .int .i64 x.f7.f0, .string x.f7.f1, .int .i64 x.f7.f2, .slice A10 x.f7.f3.length c10, .slice A11 x.f7.f4.length c11, .int .i64 x.f8.f0, .string x.f8.f1, .int .i64 x.f8.f2, .slice A15 x.f8.f3.length c15, .slice A16 x.f8.f4.length c16], .int .i64 k0] w fun e w' => e = .returned (.int .i64 (mo3 n x k0)) ∧ Below w.heap.size w w' := by
  obtain ⟨q1, q2, q3⟩ := mo_le n x k0
  obtain ⟨W1, hW1⟩ : ∃ W1, w.alloc (.cells #[.int .i64 x.f0, .string x.f1, .int .i64 x.f2, .int .i64 x.f3, .int .i64 x.f4, .bool x.f5, .slice A6 x.f6.length c6, .int .i64 x.f7.f0, .string x.f7.f1, .int .i64 x.f7.f2, .slice A10 x.f7.f3.length c10, .slice A11 x.f7.f4.length c11, .int .i64 x.f8.f0, .string x.f8.f1, .int .i64 x.f8.f2, .slice A15 x.f8.f3.length c15, .slice A16 x.f8.f4.length c16] 46) = W1 := ⟨_, rfl⟩
  have hbA := below_alloc (Below.refl w.heap.size w) (.cells #[.int .i64 x.f0, .string x.f1, .int .i64 x.f2, .int .i64 x.f3, .int .i64 x.f4, .bool x.f5, .slice A6 x.f6.length c6, .int .i64 x.f7.f0, .string x.f7.f1, .int .i64 x.f7.f2, .slice A10 x.f7.f3.length c10, .slice A11 x.f7.f4.length c11, .int .i64 x.f8.f0, .string x.f8.f1, .int .i64 x.f8.f2, .slice A15 x.f8.f3.length c15, .slice A16 x.f8.f4.length c16] 46)
  have hb0 := blk_new w (.cells #[.int .i64 x.f0, .string x.f1, .int .i64 x.f2, .int .i64 x.f3, .int .i64 x.f4, .bool x.f5, .slice A6 x.f6.length c6, .int .i64 x.f7.f0, .string x.f7.f1, .int .i64 x.f7.f2, .slice A10 x.f7.f3.length c10, .slice A11 x.f7.f4.length c11, .int .i64 x.f8.f0, .string x.f8.f1, .int .i64 x.f8.f2, .slice A15 x.f8.f3.length c15, .slice A16 x.f8.f4.length c16] 46)
  rw [hW1] at hbA hb0
  have HW1 := Lib.hid hW1
  have HBA := Lib.hid hbA
  have Q1 : Hid (W1.heap[w.heap.size]? = some (.cells (obC x (.slice A6 x.f6.length c6) (.slice A10 x.f7.f3.length c10) (.slice A11 x.f7.f4.length c11) (.slice A15 x.f8.f3.length c15) (.slice A16 x.f8.f4.length c16)) 46 (0, 0))) := Lib.hid hb0
  have HO := Lib.hid (OM_below hO hbA)
  have H7 := Lib.hid hs7
  have H8 := Lib.hid hs8
  clear hO hs7 hs8 hW1 hbA hb0
  go_enter Try.func28, Try.ntmps28
  go_wp2_with fail
  rw [HW1.out]
  obtain ⟨⟨l6, C6⟩, ⟨l10, _⟩, ⟨l11, _⟩, ⟨l15, _⟩, ⟨l16, _⟩⟩ := HO.out
  have gm : (mkL (mkV n) x.f7.f4 (mkL mkS x.f7.f3 (mkL mkS x.f6 k0).2).2).2 ≤ 1099511627776 := by show mo2 n x k0 ≤ _; omega
  have gn1 : 0 ≤ (mkL mkS x.f6 k0).2 := by show 0 ≤ mo1 n x k0; omega
  have gn2 : 0 ≤ (mkL (mkV n) x.f7.f4 (mkL mkS x.f7.f3 (mkL mkS x.f6 k0).2).2).2 := by show 0 ≤ mo2 n x k0; omega
  have gm3 : (mkL (mkV n) x.f8.f4 (mkL mkS x.f8.f3 (mkL (mkV n) x.f7.f4 (mkL mkS x.f7.f3 (mkL mkS x.f6 k0).2).2).2).2).2 ≤ 1099511627776 := h1
  have h6b : k0 + x.f6.length ≤ 1099511627776 := by omega
  (with_reducible refine (heldS x.f6 A6 c6 k0 W1 h0 h6b C6 l6).mono ?_)
  rintro e w2 ⟨rfl, hb2⟩
  have N2 := Lib.hid hb2
  have Q2 := Lib.hid ((hb2.block _ (blk_lt Q1.out)).trans Q1.out)
  clear hb2 HW1 C6
  obtain ⟨_, ⟨_, C10⟩, ⟨_, C11⟩, _⟩ := OM_below HO.out N2.out
  replace C10 : Kd.C Kd.string w2 A10 x.f7.f3.length (mkL mkS x.f7.f3 (mkL mkS x.f6 k0).2).1 := C10
  replace C11 : Kd.C k44 w2 A11 x.f7.f4.length (mkL (mkV n) x.f7.f4 (mkL mkS x.f7.f3 (mkL mkS x.f6 k0).2).2).1 := C11
  have g1 : ¬ (mkL mkS x.f6 k0).2 < 0 := by show ¬ mo1 n x k0 < 0; omega
  obtain ⟨d7, d8, d9, d10, d11⟩ := ob_c7 Q2.out
  go_wp2_with fail
  clear d7 d8 d9 d10 d11 g1
  (with_reducible refine (heldY n x.f7 A10 c10 A11 c11 (mkL mkS x.f6 k0).2 w2 H7.out gn1 gm C10 l10 C11 l11).mono ?_)
  rintro e w3 ⟨rfl, hb3⟩
  have N3 := Lib.hid (below_step N2.out hb3)
  have Q3 := Lib.hid ((hb3.block _ (blk_lt Q2.out)).trans Q2.out)
  clear hb3
  clear C10 C11
  obtain ⟨_, _, _, ⟨_, C15⟩, ⟨_, C16⟩⟩ := OM_below HO.out N3.out
  replace C15 : Kd.C Kd.string w3 A15 x.f8.f3.length (mkL mkS x.f8.f3 (mkL (mkV n) x.f7.f4 (mkL mkS x.f7.f3 (mkL mkS x.f6 k0).2).2).2).1 := C15
  replace C16 : Kd.C k44 w3 A16 x.f8.f4.length (mkL (mkV n) x.f8.f4 (mkL mkS x.f8.f3 (mkL (mkV n) x.f7.f4 (mkL mkS x.f7.f3 (mkL mkS x.f6 k0).2).2).2).2).1 := C16
  have g2 : ¬ (mkL (mkV n) x.f7.f4 (mkL mkS x.f7.f3 (mkL mkS x.f6 k0).2).2).2 < 0 := by show ¬ mo2 n x k0 < 0; omega
  obtain ⟨d12, d13, d14, d15, d16⟩ := ob_c8 Q3.out
  go_wp2_with fail
  clear d12 d13 d14 d15 d16 g2
  (with_reducible refine (heldY n x.f8 A15 c15 A16 c16 (mkL (mkV n) x.f7.f4 (mkL mkS x.f7.f3 (mkL mkS x.f6 k0).2).2).2 w3 H8.out gn2 gm3 C15 l15 C16 l16).mono ?_)
  rintro e w4 ⟨rfl, hb4⟩
  have N4 := Lib.hid (below_step N3.out hb4)
  clear hb4
  have g3 : ¬ (mkL (mkV n) x.f8.f4 (mkL mkS x.f8.f3 (mkL (mkV n) x.f7.f4 (mkL mkS x.f7.f3 (mkL mkS x.f6 k0).2).2).2).2).2 < 0 := by show ¬ mo3 n x k0 < 0; omega
  go_wp2
  go_ret
  exact ⟨rfl, below_step HBA.out N4.out⟩
set_option maxHeartbeats 16000000 in
set_option maxRecDepth 100000 in
theorem markB_calls (n b : Nat) (y : IBase) (A0 : Option Addr) (c0 : Nat) (A3 : Option Addr) (c3 : Nat) (fp : List Nat) (k0 : Int) (w0 w : World) (hB : Below w0.heap.size w0 w) (hT : BT (n + 1) b w y A0 c0 A3 c3 fp) (hb : w0.heap.size ≤ b) (h0 : 0 ≤ k0) (h1 : (mkL (mkC n) y.f3 (mkL (mkO n) y.f0 k0).2).2 ≤ 1099511627776) :
    Calls Try.prog 18 #[.agg #[.slice A0 y.f0.length c0, .int .i64 y.f1, .int .i64 y.f2, .slice A3 y.f3.length c3], .int .i64 k0] w fun e w' => e = .returned (.int .i64 (mkL (mkC n) y.f3 (mkL (mkO n) y.f0 k0).2).2) ∧ (∃ f0 f3, fp = f0 ++ f3 ∧ (tO (n + 1)).Row 46 w' (.slice A0 y.f0.length c0) (mkL (mkO n) y.f0 k0).1 f0 ∧ (tC (n + 1)).Row 90 w' (.slice A3 y.f3.length c3) (mkL (mkC n) y.f3 (mkL (mkO n) y.f0 k0).2).1 f3) ∧ Below w0.heap.size w0 w' ∧ Kept w w' (fun k => k ∈ fp) := by
  obtain ⟨_, ⟨f0, f3, rfl, r0, r3⟩, hn, hf⟩ := hT
  rw [List.nodup_append] at hn
  obtain ⟨n0, n3, n03⟩ := hn
  have hm1 := mkL_mono (mkO_mono n) y.f0 k0
  have hm2 := mkL_mono (mkC_mono n) y.f3 (mkL (mkO n) y.f0 k0).2
  obtain ⟨W1, hW1⟩ : ∃ W1, w.alloc (.cells #[.slice A0 y.f0.length c0, .int .i64 y.f1, .int .i64 y.f2, .slice A3 y.f3.length c3] 30) = W1 := ⟨_, rfl⟩
  have hbA := below_alloc (Below.refl w.heap.size w) (.cells #[.slice A0 y.f0.length c0, .int .i64 y.f1, .int .i64 y.f2, .slice A3 y.f3.length c3] 30)
  have hb0 := blk_new w (.cells #[.slice A0 y.f0.length c0, .int .i64 y.f1, .int .i64 y.f2, .slice A3 y.f3.length c3] 30)
  rw [hW1] at hbA hb0
  have HW1 := Lib.hid hW1
  have HBA := Lib.hid hbA
  have B1 := Lib.hid (below_then hB hB.size hbA)
  have Q1 := Lib.hid hb0
  have R0 := Lib.hid (Td.Row_below r0 hbA)
  have R3 := Lib.hid (Td.Row_below r3 hbA)
  have HF := Lib.hid hf
  have N0 := Lib.hid n0
  have N3 := Lib.hid n3
  have N03 := Lib.hid n03
  clear hB r0 r3 hf n0 n3 n03 hW1 hbA hb0
  go_enter Try.func18, Try.ntmps18
  go_wp2_with fail
  rw [HW1.out]
  (with_reducible refine (markOs_calls n y.f0 _ f0 k0 w0 W1 B1.out R0.out N0.out (fun k hk => Nat.le_trans hb (HF.out k (List.mem_append_left _ hk)).1) h0 (by omega)).mono ?_)
  rintro e w2 ⟨rfl, hr0, hb2, hk2⟩
  have Q2 := Lib.hid ((hk2.2 _ (blk_lt Q1.out) (fun hm => by have := (HF.out _ (List.mem_append_left _ hm)).2; omega)).trans Q1.out)
  have S0 := Lib.hid hr0
  have S3 := Lib.hid (Td.Row_move R3.out (fun k hk => hk2.2 k (Td.Row_lt R3.out k hk) (fun hm => N03.out k hm k hk rfl)))
  have B2 := Lib.hid hb2
  have K2 := Lib.hid (kept_trans (Kept.of_below HBA.out (fun k => k ∈ f0 ++ f3)) hk2 (fun k hk => .inl (List.mem_append_left _ hk)))
  clear hr0 hb2 hk2 R0 R3 Q1 HW1
  obtain ⟨b0, b1, b2, b3⟩ := cells4 Q2.out
  go_wp2_with fail
  clear b0 b1 b2 b3
  (with_reducible refine (markCs_calls n y.f3 _ f3 (mkL (mkO n) y.f0 k0).2 w0 w2 B2.out S3.out N3.out (fun k hk => Nat.le_trans hb (HF.out k (List.mem_append_right _ hk)).1) (by omega) h1).mono ?_)
  rintro e w3 ⟨rfl, hr3, hb3, hk3⟩
  have T0 := Lib.hid (Td.Row_move S0.out (fun k hk => hk3.2 k (Td.Row_lt S0.out k hk) (fun hm => N03.out k hk k hm rfl)))
  have T3 := Lib.hid hr3
  have B3 := Lib.hid hb3
  have K3 := Lib.hid (kept_trans K2.out hk3 (fun k hk => .inl (List.mem_append_right _ hk)))
  clear hr3 hb3 hk3 S0 S3 Q2 K2
  go_wp2
  go_ret
  exact ⟨rfl, ⟨f0, f3, rfl, T0.out, T3.out⟩, B3.out, K3.out⟩
/-! ### how many marks a base takes -/
theorem mcI_up : ∀ {n : Nat} {y : IVal}, SmI n y → mcI (n + 1) y = mcI n y
  | 0, y, h => by rw [SmI] at h; exact h.elim
  | n + 1, y, h => by
    rw [SmI] at h
    rw [mcI, mcI]
    congr 2
    exact List.map_congr_left (fun z hz => by rw [mcI_up (h.2.2.2.2 z hz)])
theorem mkO_cnt (n : Nat) (x : IObj) (k : Int) : (mkO n x k).2 ≤ k + ((12 + (x.f6.length + (mcI (n + 1) x.f7 + mcI (n + 1) x.f8)) : Nat) : Int) := by
  have h1 := mkS_count x.f6 (k + 6)
  have h2 := mkV_cnt (n + 1) x.f7 (mkL mkS x.f6 (k + 6)).2
  have h3 := mkV_cnt (n + 1) x.f8 (mkV (n + 1) x.f7 (mkL mkS x.f6 (k + 6)).2).2
  show (mkV (n + 1) x.f8 (mkV (n + 1) x.f7 (mkL mkS x.f6 (k + 6)).2).2).2 ≤ _
  omega
theorem mkC_cnt (n : Nat) (x : IChg) (k : Int) : (mkC n x k).2 ≤ k + ((14 + (x.f2.f6.length + (mcI (n + 1) x.f2.f7 + mcI (n + 1) x.f2.f8)) : Nat) : Int) := by
  have h1 := mkO_cnt n x.f2 (k + 2)
  show (mkO n x.f2 (k + 2)).2 ≤ _
  omega
theorem mc_obj {m : Nat} {x : LObj} (hw : wfLON (m + 1) x) (hs : SmLO (m + 1) x) : (cOb (m + 1) x).f6.length + (mcI (m + 2) (cOb (m + 1) x).f7 + mcI (m + 2) (cOb (m + 1) x).f8) = mcLO (m + 1) x := by
  have h7 := mcI_up (cVN_sm _ _ hw.2.2.1 hs.2.1)
  have h8 := mcI_up (cVN_sm _ _ hw.2.2.2 hs.2.2)
  show x.f6.length + (mcI (m + 2) (cVN (m + 1) x.f7) + mcI (m + 2) (cVN (m + 1) x.f8)) = _
  rw [h7, h8, mc_c, mc_c]; rfl
theorem sum_add {α : Type} (c : Nat) (f : α → Nat) : ∀ l : List α, (l.map (fun x => c + f x)).sum = c * l.length + (l.map f).sum
  | [] => by simp
  | x :: l => by rw [List.map_cons, List.sum_cons, sum_add c f l, List.map_cons, List.sum_cons, List.length_cons, Nat.mul_succ]; omega
theorem sum_map_congr {α β : Type} (g : α → β) (f : β → Nat) (h : α → Nat) : ∀ l : List α, (∀ x ∈ l, f (g x) = h x) → ((l.map g).map f).sum = (l.map h).sum
  | [], _ => rfl
  | x :: l, hx => by rw [List.map_cons, List.map_cons, List.sum_cons, List.map_cons, List.sum_cons, hx x (by simp), sum_map_congr g f h l (fun y hy => hx y (by simp [hy]))]
theorem base_marks {m : Nat} {s : LBase} {r : Int} (hw : ∀ x ∈ s.f0, wfLON (m + 1) x) (hw3 : ∀ x ∈ s.f3, wfLON (m + 1) x.f2) (hs : SmLB (m + 1) s.f0 s.f3) (hm : ((s.f0.map (mcLO (m + 1))).sum : Int) + ((s.f3.map (fun x => mcLO (m + 1) x.f2)).sum : Int) ≤ 4 * (1048576 - r)) (hr : 0 ≤ r) (k : Int) (hk : k ≤ 1000000) :
    (mkL (mkC (m + 1)) (cB m s).f3 (mkL (mkO (m + 1)) (cB m s).f0 k).2).2 ≤ 1099511627776 := by
  have h1 := mkL_sum (mkO (m + 1)) (fun x => 12 + (x.f6.length + (mcI (m + 2) x.f7 + mcI (m + 2) x.f8))) (cB m s).f0 (fun x _ k => mkO_cnt (m + 1) x k) k
  have h2 := mkL_sum (mkC (m + 1)) (fun x => 14 + (x.f2.f6.length + (mcI (m + 2) x.f2.f7 + mcI (m + 2) x.f2.f8))) (cB m s).f3 (fun x _ k => mkC_cnt (m + 1) x k) (mkL (mkO (m + 1)) (cB m s).f0 k).2
  rw [sum_add] at h1 h2
  have e1 : ((cB m s).f0.map (fun x => x.f6.length + (mcI (m + 2) x.f7 + mcI (m + 2) x.f8))).sum = (s.f0.map (mcLO (m + 1))).sum := sum_map_congr (cOb (m + 1)) _ _ s.f0 (fun x hx => mc_obj (hw x hx) (hs.1.2 x hx))
  have e2 : ((cB m s).f3.map (fun x => x.f2.f6.length + (mcI (m + 2) x.f2.f7 + mcI (m + 2) x.f2.f8))).sum = (s.f3.map (fun x => mcLO (m + 1) x.f2)).sum := sum_map_congr (cCh (m + 1)) _ _ s.f3 (fun x hx => mc_obj (hw3 x hx) (hs.2.2 x hx))
  rw [e1] at h1
  rw [e2] at h2
  have l1 : (cB m s).f0.length = s.f0.length := by simp [cB]
  have l2 : (cB m s).f3.length = s.f3.length := by simp [cB]
  have b1 := hs.1.1
  have b2 := hs.2.1
  rw [l1] at h1
  rw [l2] at h2
  omega
end Go.Proofs.Ytmoiacijklkfaaa.G

/- PGetLaw -/
/-
  The law of Get, walked: it is answered true.
-/
namespace Go.Proofs.Ytmoiacijklkfaaa.G
open Go.RowKit Go.Proofs.YtmoiacijklkfaaaW.PrintWords Go.Proofs.YtmoiacijklkfaaaW.PrintLast Go.Proofs.YtmoiacijklkfaaaW.PrintMore
attribute [local go_sem] max2_int min2_int max_two min_two max_three min_three max_four min_four
set_option linter.unusedVariables false
set_option linter.unusedSimpArgs false
open Classical in
noncomputable def laws_FnExactGet.f (l0 : List LObj) (a1 a2 : Int) (l3 : List LChg) (k : Int) (nm : ByteArray) : Option Bool := if wfBase ⟨l0, a1, a2, l3⟩ ∧ nm.size ≤ 9223372036854775807 then some true else none
theorem FnExactGet_pure (s : LBase) (k : Int) (nm : ByteArray) (hw : wfBase s) (hk : -9223372036854775808 ≤ k ∧ k ≤ 9223372036854775807) (hn : nm.size ≤ 9223372036854775807) : laws_FnExactGet.f s.f0 s.f1 s.f2 s.f3 k nm = some true := by
  unfold laws_FnExactGet.f
  exact if_pos ⟨hw, hn⟩
theorem smI_zI (m : Nat) : SmI (m + 1) (⟨0, ⟨#[]⟩, 0, [], []⟩ : IVal) := by
  rw [SmI]
  exact ⟨by decide, by decide, ⟨by decide, by intro y hy; cases hy⟩, by decide, by intro y hy; cases hy⟩
theorem getR_cases (l : List IObj) (a1 : Int) (a2 : ByteArray) : (∃ i, ∃ h : i < l.length, getR l a1 a2 = (l[i], true)) ∨ getR l a1 a2 = (zO, false) := by
  cases h : l.findIdx? (objIs a1 a2) with
  | none => exact .inr (find_none h).2
  | some i =>
    obtain ⟨_, hi, hg⟩ := find_some h
    exact .inl ⟨i, hi, by rw [hg, oAt_eq hi]⟩
theorem getR_sm {m : Nat} {y : IBase} (hs : SmB (m + 1) y) (a1 : Int) (a2 : ByteArray) : SmX (m + 1) (getR y.f0 a1 a2).1 ∧ (getR y.f0 a1 a2).1.f6.length ≤ 1048576 := by
  rcases getR_cases y.f0 a1 a2 with ⟨i, h, e⟩ | e
  · rw [e]; exact hs.1.2 _ (List.getElem_mem h)
  · rw [e]; exact ⟨⟨by decide, ⟨by decide, by intro y hy; cases hy⟩, smI_zI m, smI_zI m⟩, by decide⟩
theorem getR_cnt {m : Nat} {s : LBase} {r : Int} (hm : ((s.f0.map (mcLO (m + 1))).sum : Int) + ((s.f3.map (fun x => mcLO (m + 1) x.f2)).sum : Int) ≤ 4 * (1048576 - r)) (hr : 0 ≤ r) (a1 : Int) (a2 : ByteArray) :
    (getR (cB m s).f0 a1 a2).1.f6.length + (mcI (m + 1) (getR (cB m s).f0 a1 a2).1.f7 + mcI (m + 1) (getR (cB m s).f0 a1 a2).1.f8) ≤ 4194304 := by
  rcases getR_cases (cB m s).f0 a1 a2 with ⟨i, h, e⟩ | e
  · rw [e]
    have hi : i < s.f0.length := by simpa [cB] using h
    have he : (cB m s).f0[i] = cOb (m + 1) s.f0[i] := by simp [cB]
    rw [he]
    have h1 : (cOb (m + 1) s.f0[i]).f6.length + (mcI (m + 1) (cOb (m + 1) s.f0[i]).f7 + mcI (m + 1) (cOb (m + 1) s.f0[i]).f8) = mcLO (m + 1) s.f0[i] := by
      show s.f0[i].f6.length + (mcI (m + 1) (cVN (m + 1) s.f0[i].f7) + mcI (m + 1) (cVN (m + 1) s.f0[i].f8)) = _
      rw [mc_c, mc_c]; rfl
    have h2 := le_sum_map (mcLO (m + 1)) (List.getElem_mem hi)
    have h3 : (0 : Int) ≤ ((s.f3.map (fun x => mcLO (m + 1) x.f2)).sum : Int) := Int.natCast_nonneg _
    dsimp only
    rw [h1]
    omega
  · rw [e]
    show (0 : Nat) + (mcI (m + 1) ⟨0, ⟨#[]⟩, 0, [], []⟩ + mcI (m + 1) ⟨0, ⟨#[]⟩, 0, [], []⟩) ≤ _
    have : mcI (m + 1) (⟨0, ⟨#[]⟩, 0, [], []⟩ : IVal) = 0 := rfl
    rw [this]; decide
theorem specGetY (m : Nat) (y : IBase) (a1 : Int) (a2 : ByteArray) (R : IObj) (bb : Bool) (hR : getR y.f0 a1 a2 = (R, bb)) (A0 : Option Addr) (c0 : Nat) (A3 : Option Addr) (c3 : Nat) (w : World) (hr : BR w y A0 c0 A3 c3) (hs : SmB (m + 1) y) :
    Calls Try.prog 24 #[.agg #[.slice A0 y.f0.length c0, .int .i64 y.f1, .int .i64 y.f2, .slice A3 y.f3.length c3], .int .i64 a1, .string a2] w fun e w' => ∃ cs' : List Value, e = .returned (.tuple #[.agg cs'.toArray, .bool bb]) ∧ k46.K w' R cs' ∧ Below w.heap.size w w' := by
  refine (specGet_calls m y a1 a2 A0 c0 A3 c3 w hr hs).mono ?_
  rintro e w' ⟨cs', h1, h2, h3⟩
  rw [hR] at h1 h2
  exact ⟨cs', h1, h2, h3⟩
theorem implGetY (m : Nat) (y : IBase) (a1 : Int) (a2 : ByteArray) (R : IObj) (bb : Bool) (hR : getR y.f0 a1 a2 = (R, bb)) (A0 : Option Addr) (c0 : Nat) (A3 : Option Addr) (c3 : Nat) (w : World) (hr : BR w y A0 c0 A3 c3) (hs : SmB (m + 1) y) :
    Calls Try.prog 25 #[.agg #[.slice A0 y.f0.length c0, .int .i64 y.f1, .int .i64 y.f2, .slice A3 y.f3.length c3], .int .i64 a1, .string a2] w fun e w' => ∃ P6 p6 P10 p10 P11 p11 P15 p15 P16 p16 f6 f10 f11 f15 f16, e = .returned (.tuple #[.agg ([.int .i64 R.f0, .string R.f1, .int .i64 R.f2, .int .i64 R.f3, .int .i64 R.f4, .bool R.f5, .slice P6 R.f6.length p6, .int .i64 R.f7.f0, .string R.f7.f1, .int .i64 R.f7.f2, .slice P10 R.f7.f3.length p10, .slice P11 R.f7.f4.length p11, .int .i64 R.f8.f0, .string R.f8.f1, .int .i64 R.f8.f2, .slice P15 R.f8.f3.length p15, .slice P16 R.f8.f4.length p16] : List Value).toArray, .bool bb]) ∧ OT m w.heap.size w' R P6 p6 P10 p10 P11 p11 P15 p15 P16 p16 f6 f10 f11 f15 f16 ∧ Below w.heap.size w w' := by
  refine (implGet_calls m y a1 a2 A0 c0 A3 c3 w hr hs).mono ?_
  rintro e w' ⟨cs', fp, h1, h2, hn, hf, h3⟩
  rw [hR] at h1 h2
  obtain ⟨P6, p6, P10, p10, P11, p11, P15, p15, P16, p16, f6, f10, f11, f15, f16, rfl, rfl, hO⟩ := OT_of h2 hn hf
  exact ⟨P6, p6, P10, p10, P11, p11, P15, p15, P16, p16, f6, f10, f11, f15, f16, h1, hO, h3⟩
def T_laws_FnExactGet_12 : Bool × List (List Nat × List Nat) := (true, [([], []), ([], []), ([1], [1]), ([0, 2, 2], [0, 2]), ([3], [3])])
def B_laws_FnExactGet_12 : List Nat := [0, 0, 2, 7, 15]
theorem t_laws_FnExactGet_12 : rtab .any (opsOf Try.f6 12) = T_laws_FnExactGet_12 := by kernel_rfl
theorem b_laws_FnExactGet_12 : waitsOk T_laws_FnExactGet_12.2 B_laws_FnExactGet_12 = true := by kernel_rfl
theorem gate_guard_b {P : Program} {ops : Array Oper} {rest : List Oper} {o : Oper} {a : Act} {Q : Exit → Act → World → Prop} {W : World} (b want : Bool) (hb : b = want) (hw : Region.wanted o (yielded ops a.tmps) = (b == want)) (h : wpList P ops Q ({ o with guard := none } :: rest) a W) : wpList P ops Q (o :: rest) a W :=
  gate_guard (by rw [hw, hb]; exact beq_self_eq_true want) h
set_option maxHeartbeats 16000000 in
set_option maxRecDepth 100000 in
theorem get_law (s : LBase) (ak : Int) (nm : ByteArray) (A0 : Option Addr) (c0 : Nat) (A3 : Option Addr) (c3 : Nat) (w : World) (g0 : Kd.C k121 w A0 s.f0.length s.f0) (l0 : s.f0.length ≤ c0) (g3 : Kd.C k124 w A3 s.f3.length s.f3) (l3 : s.f3.length ≤ c3) (hw : wfBase s) (hnm : nm.size ≤ 9223372036854775807) :
    Calls Try.prog 6 #[.agg #[.slice A0 s.f0.length c0, .int .i64 s.f1, .int .i64 s.f2, .slice A3 s.f3.length c3], .int .i64 ak, .string nm] w fun e w' => e = .returned (.bool true) ∧ Below w.heap.size w w' := by
  obtain ⟨m, hwo, hwc⟩ := wfBase_of hw
  obtain ⟨W1, hW1⟩ : ∃ W1, w.alloc (.cells #[.slice A0 s.f0.length c0, .int .i64 s.f1, .int .i64 s.f2, .slice A3 s.f3.length c3] 25) = W1 := ⟨_, rfl⟩
  have hbA := below_alloc (Below.refl w.heap.size w) (.cells #[.slice A0 s.f0.length c0, .int .i64 s.f1, .int .i64 s.f2, .slice A3 s.f3.length c3] 25)
  have hb0 := blk_new w (.cells #[.slice A0 s.f0.length c0, .int .i64 s.f1, .int .i64 s.f2, .slice A3 s.f3.length c3] 25)
  rw [hW1] at hbA hb0
  have HW1 := Lib.hid hW1
  have HBA := Lib.hid hbA
  have Q1 := Lib.hid hb0
  have G0 := Lib.hid (Kd.C_below g0 hbA)
  have G3 := Lib.hid (Kd.C_below g3 hbA)
  have HWO := Lib.hid hwo
  have HWC := Lib.hid hwc
  clear g0 g3 hW1 hbA hb0 hw hwo hwc
  by_cases cn : (nm.size : Int) > 1048576
  · go_enter Try.func6, Try.ntmps6
    go_wp2
    go_ret
    exact ⟨rfl, by rw [HW1.out]; exact HBA.out⟩
  go_enter Try.func6, Try.ntmps6
  go_wp2_with fail
  rw [HW1.out]
  refine (szB_calls (m + 1) s.f0 s.f1 s.f2 s.f3 A0 c0 A3 c3 1048576 W1 G0.out l0 G3.out l3 HWO.out HWC.out (by decide) (by decide)).mono ?_
  rintro e w2 ⟨r, rfl, hL, hb2⟩
  have N2 := Lib.hid hb2
  have HL := Lib.hid hL
  clear hb2 hL HW1
  by_cases c2 : r < 0
  · go_wp2
    go_ret
    exact ⟨rfl, below_step HBA.out N2.out⟩
  obtain ⟨hp, hle, hsm, hm⟩ : 0 ≤ r ∧ r ≤ 1048576 ∧ SmLB (m + 1) s.f0 s.f3 ∧ _ := by
    rcases HL.out with h | h
    · omega
    · exact ⟨h.1, h.2.1, h.2.2.1, h.2.2.2⟩
  have HK := Lib.hid (base_marks HWO.out HWC.out hsm hm hp 1 (by decide))
  have HMC := Lib.hid (getR_cnt hm hp ak nm)
  obtain ⟨y, hy⟩ : ∃ y, cB m s = y := ⟨_, rfl⟩
  have hsy := smB_of HWO.out HWC.out hsm
  rw [hy] at hsy HK HMC
  obtain ⟨R, bb, hR⟩ : ∃ R bb, getR y.f0 ak nm = (R, bb) := ⟨_, _, rfl⟩
  have hrs := getR_sm hsy ak nm
  rw [hR] at hrs HMC
  have HRS := Lib.hid hrs
  have HRO := Lib.hid (smX_oo hrs.1)
  have HR := Lib.hid hR
  have HY := Lib.hid hy
  have HSY := Lib.hid hsy
  have HSM := Lib.hid hsm
  have HMO : Hid (mo3 m R 1 ≤ 1099511627776) := Lib.hid (by have h1 := mo_cnt m R 1; have h2 := HMC.out; dsimp only at h2; omega)
  have HMG : Hid (¬ mo3 m R 1 < 0) := Lib.hid (by obtain ⟨h1, h2, h3⟩ := mo_le m R 1; omega)
  have HKG : Hid (¬ (mkL (mkC (m + 1)) y.f3 (mkL (mkO (m + 1)) y.f0 1).2).2 < 0) := Lib.hid (by
    have h1 := mkL_mono (mkO_mono (m + 1)) y.f0 1
    have h2 := mkL_mono (mkC_mono (m + 1)) y.f3 (mkL (mkO (m + 1)) y.f0 1).2
    omega)
  clear hsm hm hy hsy HL hR hrs HMC
  -- w0
  obtain ⟨b0, b1, b2, b3⟩ := cells4 ((N2.out.block _ (blk_lt Q1.out)).trans Q1.out)
  go_wp2_with fail
  clear b0 b1 b2 b3
  refine (toBY m s y HY.out A0 c0 A3 c3 w2 (Kd.C_below G0.out N2.out) l0 (Kd.C_below G3.out N2.out) l3 HSM.out).mono ?_
  rintro e w3 ⟨B0, d0, B3, d3, fp, rfl, hT, hb3⟩
  have N3 := Lib.hid (below_step N2.out hb3)
  have HT := Lib.hid hT
  clear hb3 hT
  go_wp2_with fail
  refine (specGetY m y ak nm R bb HR.out B0 d0 B3 d3 w3 HT.out.1 HSY.out).mono ?_
  rintro e w4 ⟨csw, rfl, hkw, hb4⟩
  have N4 := Lib.hid (below_step N3.out hb4)
  have hcw : csw.length = 17 := (k46 : Kd IObj).K_len hkw
  have HCW := Lib.hid hcw
  have HOW := Lib.hid ((k46 : Kd IObj).K_one hkw)
  have HKW4 := Lib.hid hkw
  clear hb4 HT hcw hkw
  have Q1c : Hid (∀ W, Below W1.heap.size W1 W → W.cell? ⟨w.heap.size, 0, none⟩ = some (.slice A0 s.f0.length c0) ∧ W.cell? ⟨w.heap.size, 1, none⟩ = some (.int .i64 s.f1) ∧ W.cell? ⟨w.heap.size, 2, none⟩ = some (.int .i64 s.f2) ∧ W.cell? ⟨w.heap.size, 3, none⟩ = some (.slice A3 s.f3.length c3)) := Lib.hid (fun W h => cells4 ((h.block _ (blk_lt Q1.out)).trans Q1.out))
  go_wp2_with (first | ((with_reducible refine gate_store (p := 8) rfl ?_); refine store_event rfl rfl rfl (blk_new w4 _) rfl rfl ?hs ?hi ?h1 ?_; (case hs => simp [HCW.out]); (case hi => simp only [List.size_toArray, HCW.out]; kernel_rfl); (case h1 => simpa using HOW.out); intro w5 hz hs_ hfar_ hB_; have HZ5 := Lib.hid hz; have HS5 := Lib.hid hs_; have HB5 := Lib.hid (hB_ w4 (Nat.le_refl _) (below_alloc (Below.refl _ _) _)); clear hz hs_ hfar_ hB_; have N5 := Lib.hid (below_step N4.out HB5.out); obtain ⟨b0, b1, b2, b3⟩ := Q1c.out _ N5.out))
  clear b0 b1 b2 b3
  -- x0
  refine (toBY m s y HY.out A0 c0 A3 c3 w5 (Kd.C_below G0.out N5.out) l0 (Kd.C_below G3.out N5.out) l3 HSM.out).mono ?_
  rintro e w6 ⟨E0, e0, E3, e3, fpx, rfl, hT, hb6⟩
  have M6 := Lib.hid hb6
  have HT := Lib.hid hT
  have HKW5 := Lib.hid ((k46 : Kd IObj).K_below HB5.out HKW4.out)
  clear hb6 hT HB5 HKW4 N4 N3 N2
  obtain ⟨W7, hW7⟩ : ∃ W, w6.alloc (.cells #[.slice E0 y.f0.length e0, .int .i64 y.f1, .int .i64 y.f2, .slice E3 y.f3.length e3] 30) = W := ⟨_, rfl⟩
  have n7 := below_alloc (Below.refl w6.heap.size w6) (.cells #[.slice E0 y.f0.length e0, .int .i64 y.f1, .int .i64 y.f2, .slice E3 y.f3.length e3] 30)
  have q7 := blk_new w6 (.cells #[.slice E0 y.f0.length e0, .int .i64 y.f1, .int .i64 y.f2, .slice E3 y.f3.length e3] 30)
  have z7 : (w6.alloc (.cells #[.slice E0 y.f0.length e0, .int .i64 y.f1, .int .i64 y.f2, .slice E3 y.f3.length e3] 30)).heap.size = w6.heap.size + 1 := by simp
  rw [hW7] at n7 q7 z7
  have HW7 := Lib.hid hW7
  have M7 := Lib.hid (below_step M6.out n7)
  have QX := Lib.hid q7
  have Z7 := Lib.hid z7
  have HT7 := Lib.hid (BT_below HT.out n7)
  have FX := Lib.hid (fun k hk => (HT.out.2.2.2 k hk).2)
  have L57 : Hid (w5.heap.size ≤ W7.heap.size) := Lib.hid M7.out.size
  clear hW7 n7 q7 z7 HT M6
  go_wp2_with fail
  rw [HW7.out]
  refine (implGetY m y ak nm R bb HR.out E0 e0 E3 e3 W7 HT7.out.1 HSY.out).mono ?_
  rintro e w8 ⟨P6, p6, P10, p10, P11, p11, P15, p15, P16, p16, f6, f10, f11, f15, f16, rfl, hO, hb8⟩
  have M8 := Lib.hid (below_step M7.out hb8)
  have QX8 := Lib.hid ((hb8.block _ (blk_lt QX.out)).trans QX.out)
  have HT8 := Lib.hid (BT_below HT7.out hb8)
  have HO8 := Lib.hid hO
  have S78 := Lib.hid hb8.size
  have FG := Lib.hid (fun k hk => (hO.2.2.2.2.2.2 k hk))
  have HOG := Lib.hid ((k46 : Kd IObj).K_one (OT_K hO))
  clear hb8 hO HW7 HT7 QX M7
  have QW : Hid (∀ W, Below w5.heap.size w5 W → W.heap[w4.heap.size]? = some (.cells csw.toArray 46 (0, 0))) := Lib.hid (fun W h => (h.block _ (blk_lt HZ5.out)).trans HZ5.out)
  have KW : Hid (∀ W, Below w5.heap.size w5 W → k46.K W R csw) := Lib.hid (fun W h => (k46 : Kd IObj).K_below h HKW5.out)
  have LZ : Hid (w4.heap.size < w5.heap.size) := Lib.hid (blk_lt HZ5.out)
  clear HZ5 HKW5 HS5
  -- g0, and the first comparison
  go_wp2_with (first | ((with_reducible refine gate_store (p := 11) rfl ?_); refine store_event rfl rfl rfl (blk_new w8 _) rfl rfl ?hs ?hi ?h1 ?_; (case hs => rfl); (case hi => kernel_rfl); (case h1 => exact HOG.out); intro w9 hz hs_ hfar_ hB_; have HZ9 := Lib.hid hz; have HS9 := Lib.hid hs_; have HB9 := Lib.hid (hB_ w8 (Nat.le_refl _) (below_alloc (Below.refl _ _) _)); clear hz hs_ hfar_ hB_; have M9 := Lib.hid (below_step M8.out HB9.out)) | ((with_reducible refine gate_dst (N := 43) rfl ?_); refine load_event rfl (N := 43) rfl 46 (.tmp 11) rfl ⟨w8.heap.size, 0, none⟩ rfl [.int .i64 R.f0, .string R.f1, .int .i64 R.f2, .int .i64 R.f3, .int .i64 R.f4, .bool R.f5, .slice P6 R.f6.length p6, .int .i64 R.f7.f0, .string R.f7.f1, .int .i64 R.f7.f2, .slice P10 R.f7.f3.length p10, .slice P11 R.f7.f4.length p11, .int .i64 R.f8.f0, .string R.f8.f1, .int .i64 R.f8.f2, .slice P15 R.f8.f3.length p15, .slice P16 R.f8.f4.length p16] (blk_row' HZ9.out) Try.underlying46 rfl ?hi ?_; (case hi => kernel_rfl)) | ((with_reducible refine gate_dst (N := 44) rfl ?_); refine load_event rfl (N := 44) rfl 46 (.tmp 8) rfl ⟨w4.heap.size, 0, none⟩ rfl csw (blk_row' (QW.out _ M9.out)) Try.underlying46 rfl ?hi ?_; (case hi => rw [HCW.out]; kernel_rfl)))
  have HO9 := Lib.hid (OT_below HO8.out HB9.out)
  have HT9 := Lib.hid (BT_below HT8.out HB9.out)
  have QX9 := Lib.hid ((HB9.out.block _ (blk_lt QX8.out)).trans QX8.out)
  have KTw9 : k46.K w9 R [.int .i64 R.f0, .string R.f1, .int .i64 R.f2, .int .i64 R.f3, .int .i64 R.f4, .bool R.f5, .slice P6 R.f6.length p6, .int .i64 R.f7.f0, .string R.f7.f1, .int .i64 R.f7.f2, .slice P10 R.f7.f3.length p10, .slice P11 R.f7.f4.length p11, .int .i64 R.f8.f0, .string R.f8.f1, .int .i64 R.f8.f2, .slice P15 R.f8.f3.length p15, .slice P16 R.f8.f4.length p16] := (OT_K HO9.out)
  (with_reducible refine (eqO_calls (m + 1) R [.int .i64 R.f0, .string R.f1, .int .i64 R.f2, .int .i64 R.f3, .int .i64 R.f4, .bool R.f5, .slice P6 R.f6.length p6, .int .i64 R.f7.f0, .string R.f7.f1, .int .i64 R.f7.f2, .slice P10 R.f7.f3.length p10, .slice P11 R.f7.f4.length p11, .int .i64 R.f8.f0, .string R.f8.f1, .int .i64 R.f8.f2, .slice P15 R.f8.f3.length p15, .slice P16 R.f8.f4.length p16] csw w9 KTw9 (KW.out _ M9.out) HRO.out).mono ?_)
  rintro e w10 ⟨rfl, hb10⟩
  have M10 := Lib.hid (below_step M9.out hb10)
  have HO10 := Lib.hid (OT_below HO9.out hb10)
  have HT10 := Lib.hid (BT_below HT9.out hb10)
  have QX10 := Lib.hid ((hb10.block _ (blk_lt QX9.out)).trans QX9.out)
  have QG10 := Lib.hid ((hb10.block _ (blk_lt HZ9.out)).trans HZ9.out)
  clear hb10 HO8 HO9 HT8 HT9 QX8 QX9 HB9 HS9 HZ9 M8 M9 HOG
  have hbb : (bb != bb) = false := bne_self_eq_false _
  go_wp2_with fail
  refine start_ (n := 5) (S := fun w' => Below w10.heap.size w10 w') (ds := []) #[false, false, false, false, false] (by kernel_rfl) rfl rfl (below_drew (Below.refl w10.heap.size w10)) (fun hHeld => ?_)
  refine with_tabW t_laws_FnExactGet_12 b_laws_FnExactGet_12 (fun HT_ HW_ => ?_)
  generalize w10.drew = w11 at hHeld ⊢
  repeat (apply takeA_ HT_.out HW_.out [0, 1]; (case hn => exact rfl); (case hi0 => exact rfl); (case hl => simp only [List.setIfInBounds_toArray, List.set_cons_zero, List.set_cons_succ]; rfl); (case hQ => exact fun _ _ _ h => h); (case hy => first | exact Or.inr ⟨by rfl, rfl⟩ | (exact yield_row (ad := ⟨w6.heap.size, 0, none⟩) (cs := (#[.slice E0 y.f0.length e0, .int .i64 y.f1, .int .i64 y.f2, .slice E3 y.f3.length e3] : Array Value).toList) (by rfl) rfl rfl (fun w_ hS_ => blk_row ((hS_.block _ (blk_lt QX10.out)).trans QX10.out)) Try.underlying30 rfl (by kernel_rfl)) | (exact yield_row (ad := ⟨w.heap.size, 0, none⟩) (cs := (#[.slice A0 s.f0.length c0, .int .i64 s.f1, .int .i64 s.f2, .slice A3 s.f3.length c3] : Array Value).toList) (by rfl) rfl rfl (fun w_ hS_ => blk_row (((below_step (below_step N5.out M10.out) hS_).block _ (blk_lt Q1.out)).trans Q1.out)) Try.underlying25 rfl (by kernel_rfl)) | (refine Or.inl ⟨by rfl, ?_⟩; intro w_ hS_; go_simp; with_reducible rfl)); (case hS => exact hHeld); (case ha => simp only [Act.put, List.setIfInBounds_toArray, List.set_cons_zero, List.set_cons_succ, i64_w, i32_w]; rfl))
  have HB11 := Lib.hid hHeld
  refine callA_ (i := 2) (l' := ?_) HT_.out rfl rfl ?_ (by decide) Try.func15 (by kernel_rfl) rfl (by rfl) rfl (by (try simp only [List.map_toArray, List.map_cons, List.map_nil]); first | done | rfl) (toBY m s y HY.out A0 c0 A3 c3 w11 (Kd.C_below G0.out (below_step (below_step N5.out M10.out) hHeld)) l0 (Kd.C_below G3.out (below_step (below_step N5.out M10.out) hHeld)) l3 HSM.out) ?_
  rotate_left
  · simp only [List.setIfInBounds_toArray, List.set_cons_zero, List.set_cons_succ]; rfl
  rintro e w12 ⟨F0, z0, F3, z3, fr, rfl, hT12, hb12⟩
  have hHeld2 := below_step HB11.out hb12
  refine ⟨_, rfl, hHeld2, ?_⟩
  have HB12 := Lib.hid hHeld2
  have HT12 := Lib.hid hT12
  clear hb12 hHeld HB11 hT12
  refine norm_ (a' := ?_) ?_ ?_
  rotate_left
  · simp only [Act.put, List.setIfInBounds_toArray, List.set_cons_zero, List.set_cons_succ, i64_w, i32_w]; rfl
  refine callA_ (i := 3) (l' := ?_) HT_.out rfl rfl ?_ (by decide) Try.func17 (by kernel_rfl) rfl (by rfl) rfl (by (try simp only [List.map_toArray, List.map_cons, List.map_nil]); first | done | rfl) (eqB_calls (m + 1) y E0 e0 E3 e3 F0 z0 F3 z3 w12 (BR_below HT10.out.1 hHeld2) HT12.out.1 HSY.out) ?_
  rotate_left
  · simp only [List.setIfInBounds_toArray, List.set_cons_zero, List.set_cons_succ]; rfl
  rintro e w13 ⟨rfl, hb13⟩
  have hHeld3 := below_step HB12.out hb13
  refine ⟨_, rfl, hHeld3, ?_⟩
  have HB13 := Lib.hid hHeld3
  clear hb13 hHeld2
  refine norm_ (a' := ?_) ?_ ?_
  rotate_left
  · simp only [Act.put, List.setIfInBounds_toArray, List.set_cons_zero, List.set_cons_succ, i64_w, i32_w]; rfl
  repeat (apply takeA_ HT_.out HW_.out [4]; (case hn => exact rfl); (case hi0 => exact rfl); (case hl => simp only [List.setIfInBounds_toArray, List.set_cons_zero, List.set_cons_succ]; rfl); (case hQ => exact fun _ _ _ h => h); (case hy => first | exact Or.inr ⟨by rfl, rfl⟩ | (refine Or.inl ⟨by rfl, ?_⟩; intro w_ hS_; go_simp; with_reducible rfl)); (case hS => exact hHeld3); (case ha => simp only [Act.put, List.setIfInBounds_toArray, List.set_cons_zero, List.set_cons_succ, i64_w, i32_w]; rfl))
  refine done_ (done_of HT_.out (by kernel_rfl)) ?_
  have M13 := Lib.hid (below_step M10.out HB13.out)
  have HO13 := Lib.hid (OT_below HO10.out HB13.out)
  have HT13 := Lib.hid (BT_below HT10.out HB13.out)
  have QX13 := Lib.hid ((HB13.out.block _ (blk_lt QX10.out)).trans QX10.out)
  have QG13 := Lib.hid ((HB13.out.block _ (blk_lt QG10.out)).trans QG10.out)
  clear hHeld3 HT_ HW_ HB12 HB13 HT12 HO10 HT10 QX10 QG10 M10
  -- the marks of x0
  obtain ⟨b0, b1, b2, b3⟩ := cells4 QX13.out
  go_wp2_with fail
  clear b0 b1 b2 b3
  (with_reducible refine (markB_calls (m + 1) w5.heap.size y E0 e0 E3 e3 fpx 1 w5 w13 M13.out HT13.out (Nat.le_refl _) (by decide) HK.out).mono ?_)
  rintro e w14 ⟨rfl, _, hb14, hk14⟩
  have z7 := Z7.out
  have s78 := S78.out
  have M14 := Lib.hid hb14
  have QG14 := Lib.hid ((hk14.2 _ (blk_lt QG13.out) (fun hm => by have := FX.out _ hm; omega)).trans QG13.out)
  have HO14 := Lib.hid (OT_kept HO13.out hk14 (fun k hk => by have := FX.out _ hk; omega) hk14.1)
  clear hb14 hk14 HO13 HT13 QX13 QG13 M13
  obtain ⟨kx, hkx⟩ : ∃ kx, (mkL (mkC (m + 1)) y.f3 (mkL (mkO (m + 1)) y.f0 1).2).2 = kx := ⟨_, rfl⟩
  rw [hkx] at HKG ⊢
  have hkg := HKG.out
  have hkn : ¬ kx < 0 := by omega
  clear hkx
  go_wp2_with (first | ((with_reducible refine gate_dst (N := 63) rfl ?_); refine gate_guard_b (decide (kx < 0)) false (decide_eq_false (by omega)) (by kernel_rfl) ?_; refine load_event rfl (N := 63) rfl 46 (.tmp 11) rfl ⟨w8.heap.size, 0, none⟩ rfl [.int .i64 R.f0, .string R.f1, .int .i64 R.f2, .int .i64 R.f3, .int .i64 R.f4, .bool R.f5, .slice P6 R.f6.length p6, .int .i64 R.f7.f0, .string R.f7.f1, .int .i64 R.f7.f2, .slice P10 R.f7.f3.length p10, .slice P11 R.f7.f4.length p11, .int .i64 R.f8.f0, .string R.f8.f1, .int .i64 R.f8.f2, .slice P15 R.f8.f3.length p15, .slice P16 R.f8.f4.length p16] (blk_row' QG14.out) Try.underlying46 rfl ?hi ?_; (case hi => kernel_rfl)) | ((with_reducible refine gate_dst (N := 64) rfl ?_); refine gate_guard_b (decide (kx < 0)) false (decide_eq_false (by omega)) (by kernel_rfl) ?_; refine load_event rfl (N := 64) rfl 46 (.tmp 8) rfl ⟨w4.heap.size, 0, none⟩ rfl csw (blk_row' (QW.out _ M14.out)) Try.underlying46 rfl ?hi ?_; (case hi => rw [HCW.out]; kernel_rfl)))
  have KTw14 : k46.K w14 R [.int .i64 R.f0, .string R.f1, .int .i64 R.f2, .int .i64 R.f3, .int .i64 R.f4, .bool R.f5, .slice P6 R.f6.length p6, .int .i64 R.f7.f0, .string R.f7.f1, .int .i64 R.f7.f2, .slice P10 R.f7.f3.length p10, .slice P11 R.f7.f4.length p11, .int .i64 R.f8.f0, .string R.f8.f1, .int .i64 R.f8.f2, .slice P15 R.f8.f3.length p15, .slice P16 R.f8.f4.length p16] := (OT_K HO14.out)
  (with_reducible refine (eqO_calls (m + 1) R [.int .i64 R.f0, .string R.f1, .int .i64 R.f2, .int .i64 R.f3, .int .i64 R.f4, .bool R.f5, .slice P6 R.f6.length p6, .int .i64 R.f7.f0, .string R.f7.f1, .int .i64 R.f7.f2, .slice P10 R.f7.f3.length p10, .slice P11 R.f7.f4.length p11, .int .i64 R.f8.f0, .string R.f8.f1, .int .i64 R.f8.f2, .slice P15 R.f8.f3.length p15, .slice P16 R.f8.f4.length p16] csw w14 KTw14 (KW.out _ M14.out) HRO.out).mono ?_)
  rintro e w15 ⟨rfl, hb15⟩
  have M15 := Lib.hid (below_step M14.out hb15)
  have HO15 := Lib.hid (OT_below HO14.out hb15)
  have QG15 := Lib.hid ((hb15.block _ (blk_lt QG14.out)).trans QG14.out)
  clear hb15 HO14 QG14 M14
  -- the marks of g0
  go_wp2_with (first | ((with_reducible refine gate_dst (N := 73) rfl ?_); refine load_event rfl (N := 73) rfl 46 (.tmp 11) rfl ⟨w8.heap.size, 0, none⟩ rfl [.int .i64 R.f0, .string R.f1, .int .i64 R.f2, .int .i64 R.f3, .int .i64 R.f4, .bool R.f5, .slice P6 R.f6.length p6, .int .i64 R.f7.f0, .string R.f7.f1, .int .i64 R.f7.f2, .slice P10 R.f7.f3.length p10, .slice P11 R.f7.f4.length p11, .int .i64 R.f8.f0, .string R.f8.f1, .int .i64 R.f8.f2, .slice P15 R.f8.f3.length p15, .slice P16 R.f8.f4.length p16] (blk_row' QG15.out) Try.underlying46 rfl ?hi ?_; (case hi => kernel_rfl)))
  (with_reducible refine (markObj_calls m W7.heap.size R P6 p6 P10 p10 P11 p11 P15 p15 P16 p16 f6 f10 f11 f15 f16 1 w5 w15 M15.out HO15.out L57.out (by decide) HMO.out).mono ?_)
  rintro e w16 ⟨rfl, hM16, hb16, hk16⟩
  have M16 := Lib.hid hb16
  have QG16 := Lib.hid ((hk16.2 _ (blk_lt QG15.out) (fun hm => by have := (FG.out _ hm).2; omega)).trans QG15.out)
  have OM16 := Lib.hid hM16
  clear hM16 hb16 hk16 HO15 QG15 M15
  obtain ⟨ko, hko⟩ : ∃ ko, mo3 m R 1 = ko := ⟨_, rfl⟩
  have HELD : Hid (∀ W, Below w16.heap.size w16 W → Calls Try.prog 28 #[.agg ([.int .i64 R.f0, .string R.f1, .int .i64 R.f2, .int .i64 R.f3, .int .i64 R.f4, .bool R.f5, .slice P6 R.f6.length p6, .int .i64 R.f7.f0, .string R.f7.f1, .int .i64 R.f7.f2, .slice P10 R.f7.f3.length p10, .slice P11 R.f7.f4.length p11, .int .i64 R.f8.f0, .string R.f8.f1, .int .i64 R.f8.f2, .slice P15 R.f8.f3.length p15, .slice P16 R.f8.f4.length p16] : List Value).toArray, .int .i64 1] W fun e w' => e = .returned (.int .i64 ko) ∧ Below W.heap.size W w') := Lib.hid (fun W h => hko ▸ heldObj_calls m R P6 p6 P10 p10 P11 p11 P15 p15 P16 p16 1 W (OM_below OM16.out h) HRS.out.1.2.2.1 HRS.out.1.2.2.2 (by decide) HMO.out)
  rw [hko] at HMG ⊢
  have hkg2 := HMG.out
  clear hko OM16
  go_wp2_with (first | ((with_reducible refine gate_dst (N := 76) rfl ?_); refine load_event rfl (N := 76) rfl 46 (.tmp 11) rfl ⟨w8.heap.size, 0, none⟩ rfl [.int .i64 R.f0, .string R.f1, .int .i64 R.f2, .int .i64 R.f3, .int .i64 R.f4, .bool R.f5, .slice P6 R.f6.length p6, .int .i64 R.f7.f0, .string R.f7.f1, .int .i64 R.f7.f2, .slice P10 R.f7.f3.length p10, .slice P11 R.f7.f4.length p11, .int .i64 R.f8.f0, .string R.f8.f1, .int .i64 R.f8.f2, .slice P15 R.f8.f3.length p15, .slice P16 R.f8.f4.length p16] (blk_row' QG16.out) Try.underlying46 rfl ?hi ?_; (case hi => kernel_rfl)))
  (with_reducible refine (HELD.out w16 (Below.refl _ _)).mono ?_)
  rintro e w17 ⟨rfl, hb17⟩
  have T17 := Lib.hid hb17
  have M17 := Lib.hid (below_step M16.out hb17)
  clear hb17 M16
  -- h0
  obtain ⟨b0, b1, b2, b3⟩ := Q1c.out _ (below_step N5.out M17.out)
  go_wp2_with fail
  clear b0 b1 b2 b3
  refine (toBY m s y HY.out A0 c0 A3 c3 w17 (Kd.C_below G0.out (below_step N5.out M17.out)) l0 (Kd.C_below G3.out (below_step N5.out M17.out)) l3 HSM.out).mono ?_
  rintro e w18 ⟨H0, t0, H3, t3, fh, rfl, hT18, hb18⟩
  have M18 := Lib.hid (below_step M17.out hb18)
  have T18 := Lib.hid (below_step T17.out hb18)
  have HT18 := Lib.hid hT18
  clear hb18 hT18 M17 T17
  go_wp2_with fail
  refine (implGetY m y ak nm R bb HR.out H0 t0 H3 t3 w18 HT18.out.1 HSY.out).mono ?_
  rintro e w19 ⟨O6, o6, O10, o10, O11, o11, O15, o15, O16, o16, e6, e10, e11, e15, e16, rfl, hO19, hb19⟩
  have M19 := Lib.hid (below_step M18.out hb19)
  have T19 := Lib.hid (below_step T18.out hb19)
  have HO19 := Lib.hid hO19
  have HOH := Lib.hid ((k46 : Kd IObj).K_one (OT_K hO19))
  clear hb19 hO19 HT18 M18 T18
  go_wp2_with (first | ((with_reducible refine gate_store (p := 16) rfl ?_); refine store_event rfl rfl rfl (blk_new w19 _) rfl rfl ?hs ?hi ?h1 ?_; (case hs => rfl); (case hi => kernel_rfl); (case h1 => exact HOH.out); intro w20 hz hs_ hfar_ hB_; have HZ20 := Lib.hid hz; have HS20 := Lib.hid hs_; have HB20 := Lib.hid (hB_ w19 (Nat.le_refl _) (below_alloc (Below.refl _ _) _)); clear hz hs_ hfar_ hB_; have M20 := Lib.hid (below_step M19.out HB20.out); have T20 := Lib.hid (below_step T19.out HB20.out)) | ((with_reducible refine gate_dst (N := 92) rfl ?_); refine load_event rfl (N := 92) rfl 46 (.tmp 16) rfl ⟨w19.heap.size, 0, none⟩ rfl [.int .i64 R.f0, .string R.f1, .int .i64 R.f2, .int .i64 R.f3, .int .i64 R.f4, .bool R.f5, .slice O6 R.f6.length o6, .int .i64 R.f7.f0, .string R.f7.f1, .int .i64 R.f7.f2, .slice O10 R.f7.f3.length o10, .slice O11 R.f7.f4.length o11, .int .i64 R.f8.f0, .string R.f8.f1, .int .i64 R.f8.f2, .slice O15 R.f8.f3.length o15, .slice O16 R.f8.f4.length o16] (blk_row' HZ20.out) Try.underlying46 rfl ?hi ?_; (case hi => kernel_rfl)) | ((with_reducible refine gate_dst (N := 93) rfl ?_); refine load_event rfl (N := 93) rfl 46 (.tmp 8) rfl ⟨w4.heap.size, 0, none⟩ rfl csw (blk_row' (QW.out _ M20.out)) Try.underlying46 rfl ?hi ?_; (case hi => rw [HCW.out]; kernel_rfl)))
  have KTw20 : k46.K w20 R [.int .i64 R.f0, .string R.f1, .int .i64 R.f2, .int .i64 R.f3, .int .i64 R.f4, .bool R.f5, .slice O6 R.f6.length o6, .int .i64 R.f7.f0, .string R.f7.f1, .int .i64 R.f7.f2, .slice O10 R.f7.f3.length o10, .slice O11 R.f7.f4.length o11, .int .i64 R.f8.f0, .string R.f8.f1, .int .i64 R.f8.f2, .slice O15 R.f8.f3.length o15, .slice O16 R.f8.f4.length o16] := (OT_K (OT_below HO19.out HB20.out))
  (with_reducible refine (eqO_calls (m + 1) R [.int .i64 R.f0, .string R.f1, .int .i64 R.f2, .int .i64 R.f3, .int .i64 R.f4, .bool R.f5, .slice O6 R.f6.length o6, .int .i64 R.f7.f0, .string R.f7.f1, .int .i64 R.f7.f2, .slice O10 R.f7.f3.length o10, .slice O11 R.f7.f4.length o11, .int .i64 R.f8.f0, .string R.f8.f1, .int .i64 R.f8.f2, .slice O15 R.f8.f3.length o15, .slice O16 R.f8.f4.length o16] csw w20 KTw20 (KW.out _ M20.out) HRO.out).mono ?_)
  rintro e w21 ⟨rfl, hb21⟩
  have M21 := Lib.hid (below_step M20.out hb21)
  have T21 := Lib.hid (below_step T20.out hb21)
  have QG21 := Lib.hid ((T21.out.block _ (blk_lt QG16.out)).trans QG16.out)
  clear hb21 HO19 HB20 HZ20 HS20 M20 T20 M19 T19
  go_wp2_with (first | ((with_reducible refine gate_dst (N := 101) rfl ?_); refine load_event rfl (N := 101) rfl 46 (.tmp 11) rfl ⟨w8.heap.size, 0, none⟩ rfl [.int .i64 R.f0, .string R.f1, .int .i64 R.f2, .int .i64 R.f3, .int .i64 R.f4, .bool R.f5, .slice P6 R.f6.length p6, .int .i64 R.f7.f0, .string R.f7.f1, .int .i64 R.f7.f2, .slice P10 R.f7.f3.length p10, .slice P11 R.f7.f4.length p11, .int .i64 R.f8.f0, .string R.f8.f1, .int .i64 R.f8.f2, .slice P15 R.f8.f3.length p15, .slice P16 R.f8.f4.length p16] (blk_row' QG21.out) Try.underlying46 rfl ?hi ?_; (case hi => kernel_rfl)))
  (with_reducible refine (HELD.out w21 T21.out).mono ?_)
  rintro e w22 ⟨rfl, hb22⟩
  have M22 := Lib.hid (below_step M21.out hb22)
  clear hb22 HELD
  go_wp2
  go_ret
  exact ⟨rfl, below_step HBA.out (below_step N5.out M22.out)⟩
theorem laws_FnExactGet.calls (A0 : Option Addr) (c0 : Nat) (l0 : List LObj) (a1 a2 : Int) (A3 : Option Addr) (c3 : Nat) (l3 : List LChg) (ak : Int) (nm : ByteArray) (r : Bool) (w : World) (hr0 : Kd.C k121 w A0 l0.length l0) (hc0 : l0.length ≤ c0) (hr3 : Kd.C k124 w A3 l3.length l3) (hc3 : l3.length ≤ c3) (h : laws_FnExactGet.f l0 a1 a2 l3 ak nm = some r) :
    Calls Try.prog 6 #[.agg #[.slice A0 l0.length c0, .int .i64 a1, .int .i64 a2, .slice A3 l3.length c3], .int .i64 ak, .string nm] w fun e w' => e = .returned (.bool r) ∧ Below w.heap.size w w' := by
  unfold laws_FnExactGet.f at h
  split at h
  case isTrue hc =>
    obtain rfl := Option.some.inj h
    exact get_law ⟨l0, a1, a2, l3⟩ ak nm A0 c0 A3 c3 w hr0 hc0 hr3 hc3 hc.1 hc.2
  case isFalse => cases h
end Go.Proofs.Ytmoiacijklkfaaa.G

/- G6 -/
-- the law, walked by hand

/- RowFnExactGet -/
/- The law 'FnExactGet' holds for every input: it returns true, and each argument reads behind the call as it read before. No condition. -/
namespace Go.Proofs.Ytmoiacijklkfaaa.fnExactGet
open Go.ChangeShapes Go.WideShapes Go.ChangeAt Go.RowKit
set_option linter.unusedVariables false
theorem own : ownKnob Try.prog.godebug = none := by kernel_rfl
theorem laidOut : laidOutB Try.prog = true := by kernel_rfl
set_option maxRecDepth 100000 in
theorem lifted (os : Os) (started : os.Started) (H : Type) (enc : TypeId × Value → H) :
    ReturnsInHanded {} Try.checked os 6 .any (Rows.fnExactGetSpec.pre6 enc Try.prog Try.f6 Rows.fnExactGetRow.domain false) (Rows.fnExactGetSpec.post enc Try.prog Try.f6 false true false false) := by
  refine returnsInHanded_of_change (C := Try.checked) own started (by kernel_rfl) Try.func6
    (ChangeSpec.witness6 (enc := enc) (C := Try.checked) false ⟨#[], #[.agg #[.slice none 0 0, .int .i64 0, .int .i64 0, .slice none 0 0], .int .i64 0, .string ByteArray.empty], []⟩ 8 (by kernel_rfl) (by kernel_rfl) (by kernel_rfl) (by kernel_rfl)) ?_
  intro W base args ds gs before hval0 hW hcnd _
  have hval : ∀ (j : Nat) t v, Try.f6.params[j]? = some t → args[j]? = some v → Value.okWide Try.prog W .any base t v := hval0
  have hW' := hW
  obtain ⟨p, q, hA0, hV, rfl, hfz, hnd⟩ := hW
  have hA : DataW.TrodAll enc Try.prog W 0 (fun _ => true) true Try.f6.params.toList args.toList ds p := hA0
  rw [Try.params6] at hA hval
  obtain ⟨v0, vs0, d0, ds0, p0, q0, hargs0, rfl, rfl, h0, r0x⟩ := trodAll_cons hA
  obtain ⟨v1, vs1, d1, ds1, p1, q1, hargs1, rfl, rfl, h1, r1x⟩ := trodAll_cons r0x
  obtain ⟨v2, vs2, d2, ds2, p2, q2, hargs2, rfl, rfl, h2, r2x⟩ := trodAll_cons r1x
  obtain ⟨rfl, rfl, rfl⟩ := trodAll_nil r2x
  obtain rfl : args = #[v0, v1, v2] := by cases args; simp_all
  obtain ⟨rfl, rfl⟩ := trodVars_none hV
  have hlt := hW'.lt
  have hk0 := h0
  have hk1 := h1
  have hk2 := h2
  obtain ⟨s0, A0_0, c0_0, A0_3, c0_3, rfl, w0, l0_0, q0_0, l0_3, q0_3⟩ := G.kopen_base (hval 0 25 v0 rfl rfl) h0
  obtain ⟨s1, rfl, _, _, y1⟩ := open_int Try.underlying3 (hval 1 3 v1 rfl rfl) h1
  obtain ⟨s2, rfl, _, _, y2⟩ := Go.ChangeMaps.open_string Try.underlying9 (hval 2 9 v2 rfl rfl) h2
  clear hA0 hval0
  have hk := G.FnExactGet_pure s0 s1 s2 w0 (G.int_wf y1) (by unfold maxLen at y2; exact y2)
  refine (G.laws_FnExactGet.calls  A0_0 c0_0 s0.f0 s0.f1 s0.f2 A0_3 c0_3 s0.f3 s1 s2 true W q0_0 l0_0 q0_3 l0_3   hk).mono fun e W' ⟨he, bel⟩ => ?_
  subst he
  exact ⟨_, rfl, _, _, _, [], _, [], hW', trodAll_mk1 (shut_bool Try.underlying4 _), (trodAll_cons_mk (Below.trod laidOut (by kernel_rfl) (of_decide_eq_true (by kernel_rfl)) hk0 bel (fun x hx => hlt x (by simp [hx]))) (trodAll_cons_mk (Below.trod laidOut (by kernel_rfl) (of_decide_eq_true (by kernel_rfl)) hk1 bel (fun x hx => hlt x (by simp [hx]))) (trodAll_cons_mk (Below.trod laidOut (by kernel_rfl) (of_decide_eq_true (by kernel_rfl)) hk2 bel (fun x hx => hlt x (by simp [hx]))) trodAll_mk0))), rfl, bel.frame _, fun h => by cases h⟩
theorem over : Rows.fnExactGetRow.holds Try.pinned (OpenSpec.ofChange Rows.fnExactGetSpec) :=
  OpenClaim.holds_of_wide 6 Try.f6 rfl rfl rfl rfl rfl rfl rfl ⟨rfl, rfl, rfl, rfl, rfl⟩ rfl rfl rfl rfl rfl (by kernel_rfl) Try.func6 (by kernel_rfl)
    (of_decide_eq_true (by kernel_rfl)) (by unfold Func.isWrapper; first | (rw [if_pos (by decide +kernel)]; kernel_rfl) | (rw [if_neg (by decide +kernel)]; exact ⟨rfl, rfl⟩))
    (fun os started H enc _ => lifted os started H enc)
theorem proved : Rows.FnExactGetSaid := over
#print axioms proved
end Go.Proofs.Ytmoiacijklkfaaa.fnExactGet
namespace Go.Proofs.Ytmoiacijklkfaaa
theorem fnExactGet_holds : Rows.FnExactGetSaid := fnExactGet.proved
end Go.Proofs.Ytmoiacijklkfaaa
