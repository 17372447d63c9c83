import Derived.Test.YtchhognpijobcaaMFnExactReach1
import Derived.Test.YtchhognpijobcaaMFnExactReach12
import Derived.Test.YtchhognpijobcaaMFnExactReach13
import Derived.Test.YtchhognpijobcaaMFnExactReach4
import Derived.Test.YtchhognpijobcaaMFnExactReach2
import Derived.Test.YtchhognpijobcaaRows
import Derived.WalkKit
import Derived.ProofKit
import Derived.OpenShut
import Derived.ShutString
import Derived.ChangeOld
import Derived.Carry
import Derived.Below
import Derived.Handed
/- G39 -/
-- Laid by wip/g/gprint.py out of the translation, by the kit's print program. Lean checks it.
namespace Go.Proofs.Ytchhognpijobcaa.G
open Go.RowKit Go.Proofs.YtchhognpijobcaaW.PrintWords Go.Proofs.YtchhognpijobcaaW.PrintLast Go.Proofs.YtchhognpijobcaaW.PrintMore
attribute [local go_sem] max2_int min2_int max_two min_two max_three min_three max_four min_four   -- for this text's walks alone
set_option linter.unusedVariables false
set_option linter.unusedSimpArgs false

/-! ### laws_heldValue: function 39 -/
def laws_heldValue.f (k : Nat) (a0_0 : Int) (a0_1 : ByteArray) (a0_2 : Int) (l0_3 : List ByteArray) (l0_4 : List (S30)) (a1 : Int) : Option (Int) := (laws_heldStringS.f k l0_3 a1).bind fun t612 => (if t612 < 0 then (some (-1)) else ((laws_heldValueS.f k l0_4 t612).bind fun t613 => (if t613 < 0 then (some (-1)) else (some t613))))
set_option maxHeartbeats 8000000 in
set_option maxRecDepth 100000 in
theorem laws_heldValue.calls (k : Nat) (a0_0 : Int) (a0_1 : ByteArray) (a0_2 : Int) (A0_3 : Option Addr) (c0_3 : Nat) (l0_3 : List ByteArray) (A0_4 : Option Addr) (c0_4 : Nat) (l0_4 : List (S30)) (a1 : Int) (r : Int) (w : World) (hr0_3 : Kd.C Kd.string w A0_3 l0_3.length l0_3) (hc0_3 : l0_3.length ≤ c0_3) (hr0_4 : Kd.C k30 w A0_4 l0_4.length l0_4) (hc0_4 : l0_4.length ≤ c0_4) (h : laws_heldValue.f k a0_0 a0_1 a0_2 l0_3 l0_4 a1 = some r) :
    Calls Try.prog 39 #[.agg #[.int .i64 a0_0, .string a0_1, .int .i64 a0_2, .slice A0_3 l0_3.length c0_3, .slice A0_4 l0_4.length c0_4], .int .i64 a1] w fun e w' => e = .returned (.int .i64 r) ∧ Below w.heap.size w w' := by
  have hu30 := Try.underlying30
  have HR0_3 := Aside0.mk hr0_3
  have HC0_3 := Aside0.mk hc0_3
  clear hr0_3 hc0_3
  have HR0_4 := Aside0.mk hr0_4
  have HC0_4 := Aside0.mk hc0_4
  clear hr0_4 hc0_4
  have HB := Aside0.mk (Below.refl w.heap.size w)
  have H : ((laws_heldStringS.f k l0_3 a1).bind fun t612 => (if t612 < 0 then (some (-1)) else ((laws_heldValueS.f k l0_4 t612).bind fun t613 => (if t613 < 0 then (some (-1)) else (some t613))))) = some r := h
  clear h
  replace H := Option.bind_eq_some_iff.mp H
  obtain ⟨t612, A30, H⟩ := H
  replace H : (if t612 < 0 then (some (-1)) else ((laws_heldValueS.f k l0_4 t612).bind fun t613 => (if t613 < 0 then (some (-1)) else (some t613)))) = some r := H
  have A3 := Aside0.mk A30
  clear A30
  by_cases c4 : t612 < 0
  · rw [if_pos c4] at H
    have c4b0 : decide (t612 < 0) = true := decide_eq_true c4
    clear c4
    obtain rfl := Option.some.inj H
    go_enter Try.func39, Try.ntmps39
    go_wp2_with (first | ((with_reducible refine gate_dst (N := 2) rfl ?_); refine box_event ?hg (N := 2) ?hd (cs := #[.int .i64 a0_0, .string a0_1, .int .i64 a0_2, .slice A0_3 l0_3.length c0_3, .slice A0_4 l0_4.length c0_4]) (t := 30) ?hr ?_; (case hd => rfl); (case hg => rfl); (case hr => first | (go_simp; done) | (go_simp; rfl)); intro gb611 hg w5 hbox hb; have n0_ := Aside0.mk (below_step (by repeat (first | (with_reducible first | exact HB.out | apply below_alloc | apply pw_below_drewN | apply below_drew1) | exact HB.out)) hb); have n1_ := Aside0.mk (hbox); have n2_ := Aside0.mk ((by rw [hg]; exact (below_size (by repeat (first | (with_reducible first | exact HB.out | apply below_alloc | apply pw_below_drewN | apply below_drew1) | exact HB.out))) : w.heap.size ≤ gb611)); have n3_ := Aside0.mk ((by rw [hg]; exact (below_size (by repeat (first | (with_reducible first | exact HB.out | apply below_alloc | apply pw_below_drewN | apply below_drew1) | exact HB.out))) : w.heap.size ≤ gb611)); clear HB; have HB := n0_; have BK611 := n1_; have GW611 := n2_; have GE611 := n3_; clear n0_ n1_ n2_ n3_; clear hb hbox hg; have hcz6_0 : w5.cell? ⟨gb611, 0, none⟩ = some (.int .i64 a0_0) := (blk_cell BK611.out 0).trans rfl; have hcz6_1 : w5.cell? ⟨gb611, 1, none⟩ = some (.string a0_1) := (blk_cell BK611.out 1).trans rfl; have hcz6_2 : w5.cell? ⟨gb611, 2, none⟩ = some (.int .i64 a0_2) := (blk_cell BK611.out 2).trans rfl; have hcz6_3 : w5.cell? ⟨gb611, 3, none⟩ = some (.slice A0_3 l0_3.length c0_3) := (blk_cell BK611.out 3).trans rfl; have hcz6_4 : w5.cell? ⟨gb611, 4, none⟩ = some (.slice A0_4 l0_4.length c0_4) := (blk_cell BK611.out 4).trans rfl; have hfz6_0 := blk_frozen BK611.out 0; have hfz6_1 := blk_frozen BK611.out 1; have hfz6_2 := blk_frozen BK611.out 2; have hfz6_3 := blk_frozen BK611.out 3; have hfz6_4 := blk_frozen BK611.out 4) | ((with_reducible refine gate_callee (f := 75) rfl ?_); refine goesL_ (some 8) rfl rfl Try.func75 (by kernel_rfl) rfl #[.slice A0_3 l0_3.length c0_3, .int .i64 a1] rfl (by (try simp only [List.map_toArray, List.map_cons, List.map_nil]); first | done | rfl | (simp only [List.length_drop, List.length_take]; rfl)) ?_; (with_reducible refine (laws_heldStringS.calls k _ _ l0_3 a1 t612 _ ?side1 ?side2 A3.out).mono ?_); (case side1 => repeat (first | exact (Kd.C_below HR0_3.out HB.out) | (with_reducible refine Kd.C_alloc ?_ _) | (with_reducible refine Kd.C_drewN ?_ _) | (with_reducible refine Kd.C_drew ?_))); (case side2 => exact HC0_3.out); rintro e w7 ⟨rfl, hb⟩; refine ⟨_, rfl, ?_⟩; have n0_ := Aside0.mk (blk_below (g := gb611) (o := .cells #[.int .i64 a0_0, .string a0_1, .int .i64 a0_2, .slice A0_3 l0_3.length c0_3, .slice A0_4 l0_4.length c0_4] 30 (0, 0)) (by (with_reducible repeat (first | refine blk_drewN ?_ _ | refine blk_drew ?_ | refine blk_alloc ?_ _)); exact BK611.out) hb); have n1_ := Aside0.mk (below_step (by repeat (first | (with_reducible first | exact HB.out | apply below_alloc | apply pw_below_drewN | apply below_drew1 | refine below_set ?_ GE611.out) | exact HB.out)) hb); clear BK611; clear HB; have BK611 := n0_; have HB := n1_; clear n0_ n1_; (try clear hb); (try clear hb2); (try clear hk); (try clear hi)))
    go_ret
    exact ⟨by first | rfl | (simp [errW_none, errW_some] <;> rfl) | (simp [*, errW_none, errW_some] <;> rfl), by repeat (first | (with_reducible first | exact HB.out | apply below_alloc | apply pw_below_drewN | apply below_drew1 | refine below_set ?_ GE611.out) | exact HB.out)⟩
  · rw [if_neg c4] at H
    have c4b0 : decide (t612 < 0) = false := decide_eq_false c4
    clear c4
    replace H := Option.bind_eq_some_iff.mp H
    obtain ⟨t613, A80, H⟩ := H
    replace H : (if t613 < 0 then (some (-1)) else (some t613)) = some r := H
    have A8 := Aside0.mk A80
    clear A80
    by_cases c9 : t613 < 0
    · rw [if_pos c9] at H
      have c9b0 : decide (t613 < 0) = true := decide_eq_true c9
      clear c9
      obtain rfl := Option.some.inj H
      go_enter Try.func39, Try.ntmps39
      go_wp2_with (first | ((with_reducible refine gate_dst (N := 2) rfl ?_); refine box_event ?hg (N := 2) ?hd (cs := #[.int .i64 a0_0, .string a0_1, .int .i64 a0_2, .slice A0_3 l0_3.length c0_3, .slice A0_4 l0_4.length c0_4]) (t := 30) ?hr ?_; (case hd => rfl); (case hg => rfl); (case hr => first | (go_simp; done) | (go_simp; rfl)); intro gb611 hg w10 hbox hb; have n0_ := Aside0.mk (below_step (by repeat (first | (with_reducible first | exact HB.out | apply below_alloc | apply pw_below_drewN | apply below_drew1) | exact HB.out)) hb); have n1_ := Aside0.mk (hbox); have n2_ := Aside0.mk ((by rw [hg]; exact (below_size (by repeat (first | (with_reducible first | exact HB.out | apply below_alloc | apply pw_below_drewN | apply below_drew1) | exact HB.out))) : w.heap.size ≤ gb611)); have n3_ := Aside0.mk ((by rw [hg]; exact (below_size (by repeat (first | (with_reducible first | exact HB.out | apply below_alloc | apply pw_below_drewN | apply below_drew1) | exact HB.out))) : w.heap.size ≤ gb611)); clear HB; have HB := n0_; have BK611 := n1_; have GW611 := n2_; have GE611 := n3_; clear n0_ n1_ n2_ n3_; clear hb hbox hg; have hcz11_0 : w10.cell? ⟨gb611, 0, none⟩ = some (.int .i64 a0_0) := (blk_cell BK611.out 0).trans rfl; have hcz11_1 : w10.cell? ⟨gb611, 1, none⟩ = some (.string a0_1) := (blk_cell BK611.out 1).trans rfl; have hcz11_2 : w10.cell? ⟨gb611, 2, none⟩ = some (.int .i64 a0_2) := (blk_cell BK611.out 2).trans rfl; have hcz11_3 : w10.cell? ⟨gb611, 3, none⟩ = some (.slice A0_3 l0_3.length c0_3) := (blk_cell BK611.out 3).trans rfl; have hcz11_4 : w10.cell? ⟨gb611, 4, none⟩ = some (.slice A0_4 l0_4.length c0_4) := (blk_cell BK611.out 4).trans rfl; have hfz11_0 := blk_frozen BK611.out 0; have hfz11_1 := blk_frozen BK611.out 1; have hfz11_2 := blk_frozen BK611.out 2; have hfz11_3 := blk_frozen BK611.out 3; have hfz11_4 := blk_frozen BK611.out 4) | ((with_reducible refine gate_callee (f := 75) rfl ?_); refine goesL_ (some 8) rfl rfl Try.func75 (by kernel_rfl) rfl #[.slice A0_3 l0_3.length c0_3, .int .i64 a1] rfl (by (try simp only [List.map_toArray, List.map_cons, List.map_nil]); first | done | rfl | (simp only [List.length_drop, List.length_take]; rfl)) ?_; (with_reducible refine (laws_heldStringS.calls k _ _ l0_3 a1 t612 _ ?side1 ?side2 A3.out).mono ?_); (case side1 => repeat (first | exact (Kd.C_below HR0_3.out HB.out) | (with_reducible refine Kd.C_alloc ?_ _) | (with_reducible refine Kd.C_drewN ?_ _) | (with_reducible refine Kd.C_drew ?_))); (case side2 => exact HC0_3.out); rintro e w12 ⟨rfl, hb⟩; refine ⟨_, rfl, ?_⟩; have n0_ := Aside0.mk (blk_below (g := gb611) (o := .cells #[.int .i64 a0_0, .string a0_1, .int .i64 a0_2, .slice A0_3 l0_3.length c0_3, .slice A0_4 l0_4.length c0_4] 30 (0, 0)) (by (with_reducible repeat (first | refine blk_drewN ?_ _ | refine blk_drew ?_ | refine blk_alloc ?_ _)); exact BK611.out) hb); have n1_ := Aside0.mk (below_step (by repeat (first | (with_reducible first | exact HB.out | apply below_alloc | apply pw_below_drewN | apply below_drew1 | refine below_set ?_ GE611.out) | exact HB.out)) hb); clear BK611; clear HB; have BK611 := n0_; have HB := n1_; clear n0_ n1_; (try clear hb); (try clear hb2); (try clear hk); (try clear hi); have hcz13_0 : w12.cell? ⟨gb611, 0, none⟩ = some (.int .i64 a0_0) := (blk_cell BK611.out 0).trans rfl; have hcz13_1 : w12.cell? ⟨gb611, 1, none⟩ = some (.string a0_1) := (blk_cell BK611.out 1).trans rfl; have hcz13_2 : w12.cell? ⟨gb611, 2, none⟩ = some (.int .i64 a0_2) := (blk_cell BK611.out 2).trans rfl; have hcz13_3 : w12.cell? ⟨gb611, 3, none⟩ = some (.slice A0_3 l0_3.length c0_3) := (blk_cell BK611.out 3).trans rfl; have hcz13_4 : w12.cell? ⟨gb611, 4, none⟩ = some (.slice A0_4 l0_4.length c0_4) := (blk_cell BK611.out 4).trans rfl; have hfz13_0 := blk_frozen BK611.out 0; have hfz13_1 := blk_frozen BK611.out 1; have hfz13_2 := blk_frozen BK611.out 2; have hfz13_3 := blk_frozen BK611.out 3; have hfz13_4 := blk_frozen BK611.out 4) | ((with_reducible refine gate_callee (f := 76) rfl ?_); refine goesL_ (some 14) rfl rfl Try.func76 (by kernel_rfl) rfl #[.slice A0_4 l0_4.length c0_4, .int .i64 t612] rfl (by (try simp only [List.map_toArray, List.map_cons, List.map_nil]); first | done | rfl | (simp only [List.length_drop, List.length_take]; rfl)) ?_; (with_reducible refine (laws_heldValueS.calls k _ _ l0_4 t612 t613 _ ?side1 ?side2 A8.out).mono ?_); (case side1 => repeat (first | exact (Kd.C_below HR0_4.out HB.out) | (with_reducible refine Kd.C_alloc ?_ _) | (with_reducible refine Kd.C_drewN ?_ _) | (with_reducible refine Kd.C_drew ?_))); (case side2 => exact HC0_4.out); rintro e w14 ⟨rfl, hb⟩; refine ⟨_, rfl, ?_⟩; have n0_ := Aside0.mk (blk_below (g := gb611) (o := .cells #[.int .i64 a0_0, .string a0_1, .int .i64 a0_2, .slice A0_3 l0_3.length c0_3, .slice A0_4 l0_4.length c0_4] 30 (0, 0)) (by (with_reducible repeat (first | refine blk_drewN ?_ _ | refine blk_drew ?_ | refine blk_alloc ?_ _)); exact BK611.out) hb); have n1_ := Aside0.mk (below_step (by repeat (first | (with_reducible first | exact HB.out | apply below_alloc | apply pw_below_drewN | apply below_drew1 | refine below_set ?_ GE611.out) | exact HB.out)) hb); clear BK611; clear HB; have BK611 := n0_; have HB := n1_; clear n0_ n1_; (try clear hb); (try clear hb2); (try clear hk); (try clear hi)))
      go_ret
      exact ⟨by first | rfl | (simp [errW_none, errW_some] <;> rfl) | (simp [*, errW_none, errW_some] <;> rfl), by repeat (first | (with_reducible first | exact HB.out | apply below_alloc | apply pw_below_drewN | apply below_drew1 | refine below_set ?_ GE611.out) | exact HB.out)⟩
    · rw [if_neg c9] at H
      have c9b0 : decide (t613 < 0) = false := decide_eq_false c9
      clear c9
      obtain rfl := Option.some.inj H
      go_enter Try.func39, Try.ntmps39
      go_wp2_with (first | ((with_reducible refine gate_dst (N := 2) rfl ?_); refine box_event ?hg (N := 2) ?hd (cs := #[.int .i64 a0_0, .string a0_1, .int .i64 a0_2, .slice A0_3 l0_3.length c0_3, .slice A0_4 l0_4.length c0_4]) (t := 30) ?hr ?_; (case hd => rfl); (case hg => rfl); (case hr => first | (go_simp; done) | (go_simp; rfl)); intro gb611 hg w15 hbox hb; have n0_ := Aside0.mk (below_step (by repeat (first | (with_reducible first | exact HB.out | apply below_alloc | apply pw_below_drewN | apply below_drew1) | exact HB.out)) hb); have n1_ := Aside0.mk (hbox); have n2_ := Aside0.mk ((by rw [hg]; exact (below_size (by repeat (first | (with_reducible first | exact HB.out | apply below_alloc | apply pw_below_drewN | apply below_drew1) | exact HB.out))) : w.heap.size ≤ gb611)); have n3_ := Aside0.mk ((by rw [hg]; exact (below_size (by repeat (first | (with_reducible first | exact HB.out | apply below_alloc | apply pw_below_drewN | apply below_drew1) | exact HB.out))) : w.heap.size ≤ gb611)); clear HB; have HB := n0_; have BK611 := n1_; have GW611 := n2_; have GE611 := n3_; clear n0_ n1_ n2_ n3_; clear hb hbox hg; have hcz16_0 : w15.cell? ⟨gb611, 0, none⟩ = some (.int .i64 a0_0) := (blk_cell BK611.out 0).trans rfl; have hcz16_1 : w15.cell? ⟨gb611, 1, none⟩ = some (.string a0_1) := (blk_cell BK611.out 1).trans rfl; have hcz16_2 : w15.cell? ⟨gb611, 2, none⟩ = some (.int .i64 a0_2) := (blk_cell BK611.out 2).trans rfl; have hcz16_3 : w15.cell? ⟨gb611, 3, none⟩ = some (.slice A0_3 l0_3.length c0_3) := (blk_cell BK611.out 3).trans rfl; have hcz16_4 : w15.cell? ⟨gb611, 4, none⟩ = some (.slice A0_4 l0_4.length c0_4) := (blk_cell BK611.out 4).trans rfl; have hfz16_0 := blk_frozen BK611.out 0; have hfz16_1 := blk_frozen BK611.out 1; have hfz16_2 := blk_frozen BK611.out 2; have hfz16_3 := blk_frozen BK611.out 3; have hfz16_4 := blk_frozen BK611.out 4) | ((with_reducible refine gate_callee (f := 75) rfl ?_); refine goesL_ (some 8) rfl rfl Try.func75 (by kernel_rfl) rfl #[.slice A0_3 l0_3.length c0_3, .int .i64 a1] rfl (by (try simp only [List.map_toArray, List.map_cons, List.map_nil]); first | done | rfl | (simp only [List.length_drop, List.length_take]; rfl)) ?_; (with_reducible refine (laws_heldStringS.calls k _ _ l0_3 a1 t612 _ ?side1 ?side2 A3.out).mono ?_); (case side1 => repeat (first | exact (Kd.C_below HR0_3.out HB.out) | (with_reducible refine Kd.C_alloc ?_ _) | (with_reducible refine Kd.C_drewN ?_ _) | (with_reducible refine Kd.C_drew ?_))); (case side2 => exact HC0_3.out); rintro e w17 ⟨rfl, hb⟩; refine ⟨_, rfl, ?_⟩; have n0_ := Aside0.mk (blk_below (g := gb611) (o := .cells #[.int .i64 a0_0, .string a0_1, .int .i64 a0_2, .slice A0_3 l0_3.length c0_3, .slice A0_4 l0_4.length c0_4] 30 (0, 0)) (by (with_reducible repeat (first | refine blk_drewN ?_ _ | refine blk_drew ?_ | refine blk_alloc ?_ _)); exact BK611.out) hb); have n1_ := Aside0.mk (below_step (by repeat (first | (with_reducible first | exact HB.out | apply below_alloc | apply pw_below_drewN | apply below_drew1 | refine below_set ?_ GE611.out) | exact HB.out)) hb); clear BK611; clear HB; have BK611 := n0_; have HB := n1_; clear n0_ n1_; (try clear hb); (try clear hb2); (try clear hk); (try clear hi); have hcz18_0 : w17.cell? ⟨gb611, 0, none⟩ = some (.int .i64 a0_0) := (blk_cell BK611.out 0).trans rfl; have hcz18_1 : w17.cell? ⟨gb611, 1, none⟩ = some (.string a0_1) := (blk_cell BK611.out 1).trans rfl; have hcz18_2 : w17.cell? ⟨gb611, 2, none⟩ = some (.int .i64 a0_2) := (blk_cell BK611.out 2).trans rfl; have hcz18_3 : w17.cell? ⟨gb611, 3, none⟩ = some (.slice A0_3 l0_3.length c0_3) := (blk_cell BK611.out 3).trans rfl; have hcz18_4 : w17.cell? ⟨gb611, 4, none⟩ = some (.slice A0_4 l0_4.length c0_4) := (blk_cell BK611.out 4).trans rfl; have hfz18_0 := blk_frozen BK611.out 0; have hfz18_1 := blk_frozen BK611.out 1; have hfz18_2 := blk_frozen BK611.out 2; have hfz18_3 := blk_frozen BK611.out 3; have hfz18_4 := blk_frozen BK611.out 4) | ((with_reducible refine gate_callee (f := 76) rfl ?_); refine goesL_ (some 14) rfl rfl Try.func76 (by kernel_rfl) rfl #[.slice A0_4 l0_4.length c0_4, .int .i64 t612] rfl (by (try simp only [List.map_toArray, List.map_cons, List.map_nil]); first | done | rfl | (simp only [List.length_drop, List.length_take]; rfl)) ?_; (with_reducible refine (laws_heldValueS.calls k _ _ l0_4 t612 t613 _ ?side1 ?side2 A8.out).mono ?_); (case side1 => repeat (first | exact (Kd.C_below HR0_4.out HB.out) | (with_reducible refine Kd.C_alloc ?_ _) | (with_reducible refine Kd.C_drewN ?_ _) | (with_reducible refine Kd.C_drew ?_))); (case side2 => exact HC0_4.out); rintro e w19 ⟨rfl, hb⟩; refine ⟨_, rfl, ?_⟩; have n0_ := Aside0.mk (blk_below (g := gb611) (o := .cells #[.int .i64 a0_0, .string a0_1, .int .i64 a0_2, .slice A0_3 l0_3.length c0_3, .slice A0_4 l0_4.length c0_4] 30 (0, 0)) (by (with_reducible repeat (first | refine blk_drewN ?_ _ | refine blk_drew ?_ | refine blk_alloc ?_ _)); exact BK611.out) hb); have n1_ := Aside0.mk (below_step (by repeat (first | (with_reducible first | exact HB.out | apply below_alloc | apply pw_below_drewN | apply below_drew1 | refine below_set ?_ GE611.out) | exact HB.out)) hb); clear BK611; clear HB; have BK611 := n0_; have HB := n1_; clear n0_ n1_; (try clear hb); (try clear hb2); (try clear hk); (try clear hi)))
      go_ret
      exact ⟨by first | rfl | (simp [errW_none, errW_some] <;> rfl) | (simp [*, errW_none, errW_some] <;> rfl), by repeat (first | (with_reducible first | exact HB.out | apply below_alloc | apply pw_below_drewN | apply below_drew1 | refine below_set ?_ GE611.out) | exact HB.out)⟩

end Go.Proofs.Ytchhognpijobcaa.G

/- PHeldV -/
/-
  Marks are found again: values.
-/
namespace Go.Proofs.Ytchhognpijobcaa.G
open Go.RowKit Go.Proofs.YtchhognpijobcaaW.PrintWords Go.Proofs.YtchhognpijobcaaW.PrintLast Go.Proofs.YtchhognpijobcaaW.PrintMore
set_option linter.unusedVariables false
set_option linter.unusedSimpArgs false
theorem heldVals : ∀ (n : Nat) (xs : List IVal) (a : Int), (∀ x ∈ xs, SmI n x) → xs.length ≤ 1048576 → 0 ≤ a → (mkL (mkV n) xs a).2 ≤ 1099511627776 → Ev (fun k => laws_heldValueS.f k (mkL (mkV n) xs a).1 a) (mkL (mkV n) xs a).2
  | 0, xs, a, hs, _, _, _ => by
    have h0 : xs = [] := by
      cases xs with
      | nil => rfl
      | cons x xs => have := hs x (by simp); rw [SmI] at this; exact this.elim
    subst h0
    have e : mkL (mkV 0) ([] : List IVal) a = ([], a) := rfl
    rw [e]
    refine Ev.step (fun k => by rw [laws_heldValueS.f]) ?_
    refine Ev.step (fun k => by rw [laws_heldValueS.l0]) ?_
    exact ev_if_neg (by simp) (ev_some rfl)
  | n + 1, xs, a, hs, hl, h0, h1 => by
    have loop : ∀ (d i : Nat), i + d = xs.length → Ev (fun k => laws_heldValueS.l0 k (mkL (mkV (n + 1)) xs a).1 (mkL (mkV (n + 1)) (xs.take i) a).2 i) (mkL (mkV (n + 1)) xs a).2 := by
      intro d
      induction d with
      | zero =>
        intro i hd
        refine Ev.step (fun k => by rw [laws_heldValueS.l0]) (ev_if_neg (by rw [mkL_len]; omega) (ev_some ?_))
        rw [List.take_of_length_le (by omega)]
      | succ d ih =>
        intro i hd
        have hi : i < xs.length := by omega
        have hi2 : i < (mkL (mkV (n + 1)) xs a).1.length := by rw [mkL_len]; exact hi
        have hle := mkL_take_le (mkV_mono (n + 1)) xs (i + 1) a
        have hk0 := mkL_mono (mkV_mono (n + 1)) (xs.take i) a
        have ih := ih (i + 1) (by omega)
        rw [mkL_next _ _ _ _ hi] at ih hle
        generalize hn : (mkL (mkV (n + 1)) (xs.take i) a).2 = m at *
        have hx := hs _ (List.getElem_mem hi)
        rw [SmI] at hx
        obtain ⟨_, _, hx3, hx4, hxk⟩ := hx
        have hm1 := mkL_mono mkS_mono xs[i].f3 (m + 3)
        have hm2 := mkL_mono (mkV_mono n) xs[i].f4 (mkL mkS xs[i].f3 (m + 3)).2
        have hcnt := mkS_count xs[i].f3 (m + 3)
        have hle2 : (mkL (mkV n) xs[i].f4 (mkL mkS xs[i].f3 (m + 3)).2).2 ≤ (mkL (mkV (n + 1)) xs a).2 := hle
        have hh := heldStrs_ev xs[i].f3 (m + 3) (by omega) (by omega)
        have hv := heldVals n xs[i].f4 (mkL mkS xs[i].f3 (m + 3)).2 hxk hx4 (by omega) (by omega)
        refine Ev.step (fun k => by rw [laws_heldValueS.l0]) (ev_if_pos (by rw [mkL_len]; omega) (ev_if_pos (by omega) ?_))
        rw [rdIV hi2, mkL_get _ _ _ _ hi, hn, wsucc (n := xs.length) hi (by omega)]
        have a1 : wrap64 (m + 1) = m + 1 := w64 (by omega) (by omega)
        have a2 : wrap64 (m + 1 + 1) = m + 2 := by rw [w64 (by omega) (by omega)]; omega
        have a3 : wrap64 (m + 2 + 1) = m + 3 := by rw [w64 (by omega) (by omega)]; omega
        rw [a1, a2, a3]
        refine ev_if_pos rfl (Ev.bind (mt_ev _ (by omega) (by omega)) (ev_if_pos rfl (ev_if_pos rfl (Ev.bind hh (ev_if_neg (by omega) (Ev.bind hv (ev_if_neg (by omega) ?_)))))))
        exact ih
    have h00 := loop xs.length 0 (by omega)
    have e0 : (mkL (mkV (n + 1)) (xs.take 0) a).2 = a := by rw [List.take_zero]; rfl
    rw [e0] at h00
    exact Ev.step (fun k => by rw [laws_heldValueS.f]; rfl) h00
theorem heldValue_ev (n : Nat) (x : IVal) (a : Int) (hx : SmI (n + 1) x) (h0 : 0 ≤ a) (h1 : (mkL (mkV n) x.f4 (mkL mkS x.f3 a).2).2 ≤ 1099511627776) (y0 : Int) (y1 : ByteArray) (y2 : Int) :
    Ev (fun k => laws_heldValue.f k y0 y1 y2 (mkL mkS x.f3 a).1 (mkL (mkV n) x.f4 (mkL mkS x.f3 a).2).1 a) (mkL (mkV n) x.f4 (mkL mkS x.f3 a).2).2 := by
  rw [SmI] at hx
  obtain ⟨_, _, hx3, hx4, hxk⟩ := hx
  have hm1 := mkL_mono mkS_mono x.f3 a
  have hm2 := mkL_mono (mkV_mono n) x.f4 (mkL mkS x.f3 a).2
  have hcnt := mkS_count x.f3 a
  unfold laws_heldValue.f
  exact Ev.bind (heldStrs_ev x.f3 a h0 (by omega)) (ev_if_neg (by omega) (Ev.bind (heldVals n x.f4 _ hxk hx4 (by omega) h1) (ev_if_neg (by omega) (Ev.now _))))
end Go.Proofs.Ytchhognpijobcaa.G

/- GKMarkW -/
/-
  markValueS and markValue in place.
-/
namespace Go.Proofs.Ytchhognpijobcaa.G
open Go.RowKit Go.Proofs.YtchhognpijobcaaW.PrintWords Go.Proofs.YtchhognpijobcaaW.PrintLast Go.Proofs.YtchhognpijobcaaW.PrintMore
set_option linter.unusedVariables false
set_option linter.unusedSimpArgs false
theorem tV0_nil {e : Nat} {w : World} {v : Value} {xs : List TVal} {fp : List Nat} (h : (tV 0).Row e w v xs fp) (hn : fp.Nodup) : xs = [] := by
  cases xs with
  | nil => rfl
  | cons x xs =>
    obtain ⟨_, _, _, _, _, _, hT, _⟩ := Td.Row_at h hn (i := 0) (by simp)
    exact hT.elim
set_option maxHeartbeats 4000000 in
set_option maxRecDepth 100000 in
theorem markValueS_nil (n : Nat) (v : Value) (fp : List Nat) (k0 : Int) (w0 w : World) (hB : Below w0.heap.size w0 w) (hr : (tV n).Row 30 w v [] fp) :
    Calls Try.prog 73 #[v, .int .i64 k0] w fun e w' => e = .returned (.int .i64 k0) ∧ (tV n).Row 30 w' v [] fp ∧ Below w0.heap.size w0 w' ∧ Kept w w' (fun k => k ∈ fp) := by
  obtain ⟨A, c, rfl⟩ := Td.Row_slice hr
  have HR := Lib.hid hr
  have HB := Lib.hid hB
  clear hr hB
  go_enter Try.func73, Try.ntmps73
  go_wp2
  go_loopw [1, 5] (fun vk vi wr => vk = .int .i64 k0 ∧ vi = .int .i64 0 ∧ Hid ((tV n).Row 30 wr (.slice A 0 c) [] fp) ∧ Hid (Below w0.heap.size w0 wr) ∧ Hid (Kept w wr (fun k => k ∈ fp))) (fun _ _ _ => 0)
  case atStart => exact ⟨rfl, rfl, HR, HB, Kept.refl _ _⟩
  case round =>
    obtain ⟨rfl, rfl, HR2, HB2, HK2⟩ := hrel
    go_wp2
    go_ret
    exact ⟨rfl, HR2.out, HB2.out, HK2.out⟩
set_option maxHeartbeats 4000000 in
set_option maxRecDepth 100000 in
theorem markValueS_calls : ∀ (n : Nat) (xs : List TVal) (v : Value) (fp : List Nat) (k0 : Int) (w0 w : World), Below w0.heap.size w0 w → (tV n).Row 30 w v xs fp → fp.Nodup → (∀ k ∈ fp, w0.heap.size ≤ k) → 0 ≤ k0 → (mkL (mkV n) xs k0).2 ≤ 1099511627776 →
    Calls Try.prog 73 #[v, .int .i64 k0] w fun e w' => e = .returned (.int .i64 (mkL (mkV n) xs k0).2) ∧ (tV n).Row 30 w' v (mkL (mkV n) xs k0).1 fp ∧ Below w0.heap.size w0 w' ∧ Kept w w' (fun k => k ∈ fp) := by
  intro n
  induction n with
  | zero =>
    intro xs v fp k0 w0 w hB hr hn hb h0 h1
    obtain rfl := tV0_nil hr hn
    exact markValueS_nil 0 v fp k0 w0 w hB hr
  | succ n ih =>
    intro xs v fp k0 w0 w hB hr hn hb h0 h1
    by_cases hx : xs = []
    · subst hx
      exact markValueS_nil (n + 1) v fp k0 w0 w hB hr
    have hlen : xs.length ≤ 9223372036854775807 := by
      obtain ⟨_, _, _, _, hC⟩ := tV_C hr
      exact hC.2.1
    obtain ⟨g, c, _, _, rfl, _⟩ := Td.Row_at hr hn (i := 0) (List.length_pos_iff.2 hx)
    have HR := Lib.hid hr
    have HB := Lib.hid hB
    have IH := Lib.hid ih
    have HN := Lib.hid hn
    have HBS := Lib.hid hb
    clear hr hB ih hn hb
    go_enter Try.func73, Try.ntmps73
    go_wp2
    go_loopw [1, 5] (fun vk vi wr => ∃ i : Nat, i ≤ xs.length ∧ vk = .int .i64 (mkL (mkV (n + 1)) (xs.take i) k0).2 ∧ vi = .int .i64 i ∧ Hid ((tV (n + 1)).Row 30 wr (.slice (some ⟨g, 0, none⟩) xs.length c) ((mkL (mkV (n + 1)) (xs.take i) k0).1 ++ xs.drop i) fp) ∧ Hid (Below w0.heap.size w0 wr) ∧ Hid (Kept w wr (fun k => k ∈ fp))) (fun _ vi _ => xs.length - (intOf vi).toNat)
    case atStart => exact ⟨0, by omega, rfl, rfl, HR, HB, Kept.refl _ _⟩
    case round =>
      obtain ⟨i, hi, rfl, rfl, HR2, HB2, HK2⟩ := hrel
      by_cases hlt : i < xs.length
      · have hP : (mkL (mkV (n + 1)) (xs.take i) k0).1.length = i := by rw [mkL_len, List.length_take]; omega
        have hnext := mkL_snoc (mkV (n + 1)) (xs.take i) xs[i] k0
        rw [← List.take_succ_eq_append_getElem hlt] at hnext
        have hle := mkL_take_le (mkV_mono (n + 1)) xs (i + 1) k0
        have hk0 := mkL_mono (mkV_mono (n + 1)) (xs.take i) k0
        have HR3 := HR2.out
        rw [List.drop_eq_getElem_cons hlt] at HR3
        clear HR2
        obtain ⟨K, hK⟩ : ∃ K, (mkL (mkV (n + 1)) (xs.take i) k0).2 = K := ⟨_, rfl⟩
        obtain ⟨P, hPe⟩ : ∃ P, (mkL (mkV (n + 1)) (xs.take i) k0).1 = P := ⟨_, rfl⟩
        rw [hPe] at hP HR3 hnext
        rw [hK] at hnext hk0 ⊢
        rw [hnext] at hle
        have hm1 := mkL_mono mkS_mono xs[i].f3 (K + 3)
        have hm2 := mkL_mono (mkV_mono n) xs[i].f4 (mkL mkS xs[i].f3 (K + 3)).2
        have hcnt := mkS_count xs[i].f3 (K + 3)
        have hle2 : (mkL (mkV n) xs[i].f4 (mkL mkS xs[i].f3 (K + 3)).2).2 ≤ 1099511627776 := Int.le_trans hle h1
        have HP := Lib.hid hP
        have HM1 := Lib.hid hm1
        have HM2 := Lib.hid hm2
        have HCNT := Lib.hid hcnt
        have HLE := Lib.hid hle2
        have HLE1 := Lib.hid h1
        have HLE3 := Lib.hid hle
        have HNX := Lib.hid hnext
        clear hm1 hm2 hcnt hle2 h1 hle
        obtain ⟨g0, cap, v3, v4, f3, f4, hv, _, ⟨d0, _, _, _, _⟩, fz, _, _, _, _, _, _, u0, _, _, _, _, hg, hglt⟩ := RowV_at HR3 HN.out
        injection hv with hv hv1 hv2
        injection hv with hv
        injection hv with hv
        subst hv
        clear hv1 hv2
        rw [hP] at d0 u0
        have f0 := fz (i * 5)
        have U0 := Lib.hid (u0 K)
        have hgw := HBS.out g hg
        have B0 := Lib.hid (below_set (j := i * 5) (v := .int .i64 K) HB2.out hgw)
        have K0 := Lib.hid (HK2.out.setCell (p := ⟨g, i * 5, none⟩) (.inl hg) (.int .i64 K))
        clear u0 HR3 fz hnext hPe hK hP HB2 HK2
        have hKle : K + 3 ≤ 1099511627776 := by have := HLE.out; have := HM1.out; have := HM2.out; omega
        obtain ⟨q, hq⟩ := mt_ev (K + 1) (by omega) (by omega)
        have HQ := Lib.hid (hq q (Nat.le_refl q))
        clear hq
        go_wp2_with fail
        refine (laws_markText.calls q (K + 1) _ _ HQ.out).mono ?_
        rintro e w2 ⟨rfl, hb2⟩
        have U2 := Td.Row_below U0.out hb2
        have B2 := Lib.hid (below_step B0.out hb2)
        have K2 := Lib.hid (K0.out.below hb2)
        clear hb2 U0 B0 K0 d0 f0 hglt
        obtain ⟨g2, cap, v3, v4, f3, f4, hv, _, ⟨_, d1, d2, d3, d4⟩, fz, _, _, _, _, _, _, _, u1, _, _, _, hg, hglt⟩ := RowV_at U2 HN.out
        injection hv with hv hv1 hv2
        injection hv with hv
        injection hv with hv
        subst hv
        clear hv1 hv2 U2
        have hP := HP.out
        rw [hP] at d1 d2 d3 d4 u1
        have f1 := fz (i * 5 + 1)
        have f2 := fz (i * 5 + 2)
        have U1 := u1 (mt (K + 1))
        have B1 := Lib.hid (below_set (j := i * 5 + 1) (v := .string (mt (K + 1))) B2.out hgw)
        have K1 := Lib.hid (K2.out.setCell (p := ⟨g, i * 5 + 1, none⟩) (.inl hg) (.string (mt (K + 1))))
        clear u1 fz B2 K2
        obtain ⟨g2, cap, v3', v4', f3', f4', hv, _, _, _, _, _, _, _, _, _, _, _, u2, _, _, _, _⟩ := RowV_at U1 HN.out
        injection hv with hv hv1 hv2
        injection hv with hv
        injection hv with hv
        subst hv
        clear hv1 hv2 U1
        rw [hP] at u2
        have U3 := Lib.hid (u2 (K + 2))
        have B3 := Lib.hid (below_set (j := i * 5 + 2) (v := .int .i64 (K + 2)) B1.out hgw)
        have K3 := Lib.hid (K1.out.setCell (p := ⟨g, i * 5 + 2, none⟩) (.inl hg) (.int .i64 (K + 2)))
        clear u2 B1 K1
        have hx := U3.out
        obtain ⟨g2, cap, v3', v4', f3', f4', hv, _, ⟨_, _, _, e3, _⟩, _, h3, _, _, _, s3, _, _, _, _, u3, _, _, _⟩ := RowV_at hx HN.out
        injection hv with hv hv1 hv2
        injection hv with hv
        injection hv with hv
        subst hv
        clear hv1 hv2 hx
        rw [hP] at e3
        clear hP
        rw [show ((w2.setCell ⟨g, i * 5 + 1, none⟩ (.string (mt (K + 1)))).setCell ⟨g, i * 5 + 2, none⟩ (.int .i64 (K + 2))).cell? ⟨g, i * 5 + 3, none⟩ = (w2.setCell ⟨g, i * 5 + 1, none⟩ (.string (mt (K + 1)))).cell? ⟨g, i * 5 + 3, none⟩ from World.cell?_setCell_other _ _ _ _ (by simp),
          show (w2.setCell ⟨g, i * 5 + 1, none⟩ (.string (mt (K + 1)))).cell? ⟨g, i * 5 + 3, none⟩ = w2.cell? ⟨g, i * 5 + 3, none⟩ from World.cell?_setCell_other _ _ _ _ (by simp), d3] at e3
        obtain rfl := Option.some.inj e3
        clear e3
        have HM := Lib.hid (fun hb3 : ∀ k ∈ f3', w0.heap.size ≤ k => markStrs_calls xs[i].f3 v3 f3' (K + 3) w0 _ B3.out h3 hb3 (by omega) (by have := HLE.out; have := HCNT.out; have := HM2.out; omega))
        have HMS := Lib.hid (HM.out (fun k hk => HBS.out k (s3 k hk)))
        have UU3 := Lib.hid u3
        have S3 : Hid (∀ k ∈ f3', k ∈ fp) := s3
        clear HM h3 u3 s3
        go_wp2_with fail
        rw [show K + 1 + 1 + 1 = K + 3 by omega, show K + 1 + 1 = K + 2 by omega]
        (with_reducible refine HMS.out.mono ?_)
        rintro e w3 ⟨rfl, hr3, hb3, hk3⟩
        have hx := UU3.out w3 _ hr3 (fun k hk hnk => hk3.2 k (Td.Row_lt U3.out k hk) hnk)
        have B4 := Lib.hid hb3
        have K4 := Lib.hid (kept_trans K3.out hk3 (fun k hk => .inl (S3.out k hk)))
        have HXR := Lib.hid hx
        clear hr3 hb3 hk3 UU3 U3 B3 K3 HMS d1 d2 d3 d4 f1 f2 hglt
        obtain ⟨g2, cap, v3', v4', f3', f4', hv, _, ⟨_, _, _, _, d4⟩, _, _, h4, _, n4, _, s4, _, _, _, _, u4, _, _⟩ := RowV_at hx HN.out
        injection hv with hv hv1 hv2
        injection hv with hv
        injection hv with hv
        subst hv
        clear hv1 hv2 hx
        have hP := HP.out
        rw [hP] at d4
        clear hP
        have HM := Lib.hid (fun hb4 : ∀ k ∈ f4', w0.heap.size ≤ k => IH.out xs[i].f4 v4' f4' (mkL mkS xs[i].f3 (K + 3)).2 w0 w3 B4.out h4 n4 hb4 (by have := HM1.out; omega) HLE.out)
        have HMV := Lib.hid (HM.out (fun k hk => HBS.out k (s4 k hk)))
        have UU4 := Lib.hid u4
        have S4 : Hid (∀ k ∈ f4', k ∈ fp) := s4
        clear HM h4 u4 s4 n4
        go_wp2_with fail
        (with_reducible refine HMV.out.mono ?_)
        rintro e w4 ⟨rfl, hr4, hb4, hk4⟩
        have HR4 := Lib.hid (UU4.out w4 _ hr4 (fun k hk hnk => hk4.2 k (Td.Row_lt HXR.out k hk) hnk))
        have HB4 := Lib.hid hb4
        have HK4 := Lib.hid (kept_trans K4.out hk4 (fun k hk => .inl (S4.out k hk)))
        clear hr4 hb4 hk4 UU4 HXR B4 K4 HMV d4
        go_wp2
        go_roundw
        case rel =>
          refine ⟨i + 1, by omega, ?_, by go_num, ?_, HB4, HK4⟩
          · rw [HNX.out]; rfl
          · have h_ := HR4.out
            unfold Hid
            rw [HNX.out]
            simp only [List.append_assoc, List.singleton_append]
            exact h_
        case measure => simp [intOf]; omega
      · obtain rfl : i = xs.length := by omega
        go_wp2
        go_ret
        have h_ := HR2.out
        rw [List.take_length, List.drop_length, List.append_nil] at h_
        exact ⟨by first | rfl | simp, h_, HB2.out, HK2.out⟩
set_option maxHeartbeats 4000000 in
theorem markValue_calls (n : Nat) (x : TVal) (v3 v4 : Value) (f3 f4 : List Nat) (k0 : Int) (w0 w : World) (hB : Below w0.heap.size w0 w) (h3 : Td.string.Row 9 w v3 x.f3 f3) (h4 : (tV n).Row 30 w v4 x.f4 f4) (hn : (f3 ++ f4).Nodup) (hb : ∀ k ∈ f3 ++ f4, w0.heap.size ≤ k) (h0 : 0 ≤ k0) (h1 : (mkL (mkV n) x.f4 (mkL mkS x.f3 k0).2).2 ≤ 1099511627776) :
    Calls Try.prog 37 #[.agg #[.int .i64 x.f0, .string x.f1, .int .i64 x.f2, v3, v4], .int .i64 k0] w fun e w' => e = .returned (.int .i64 (mkL (mkV n) x.f4 (mkL mkS x.f3 k0).2).2) ∧
      Td.string.Row 9 w' v3 (mkL mkS x.f3 k0).1 f3 ∧ (tV n).Row 30 w' v4 (mkL (mkV n) x.f4 (mkL mkS x.f3 k0).2).1 f4 ∧ Below w0.heap.size w0 w' ∧ Kept w w' (fun k => k ∈ f3 ++ f4) := by
  rw [List.nodup_append] at hn
  obtain ⟨n3, n4, n34⟩ := hn
  obtain ⟨A3, c3, rfl⟩ := Td.Row_slice h3
  obtain ⟨A4, c4, rfl⟩ := Td.Row_slice h4
  have hm1 := mkL_mono mkS_mono x.f3 k0
  have hm2 := mkL_mono (mkV_mono n) x.f4 (mkL mkS x.f3 k0).2
  have hcnt := mkS_count x.f3 k0
  have hA := below_alloc (Below.refl w.heap.size w) (.cells #[.int .i64 x.f0, .string x.f1, .int .i64 x.f2, .slice A3 x.f3.length c3, .slice A4 x.f4.length c4] 30)
  have hbx : (w.alloc (.cells #[.int .i64 x.f0, .string x.f1, .int .i64 x.f2, .slice A3 x.f3.length c3, .slice A4 x.f4.length c4] 30)).heap[w.heap.size]? = some (.cells #[.int .i64 x.f0, .string x.f1, .int .i64 x.f2, .slice A3 x.f3.length c3, .slice A4 x.f4.length c4] 30 (0, 0)) := heap_alloc_new _ _
  have l3 : ∀ k ∈ f3, k < w.heap.size := Td.Row_lt h3
  have l4 : ∀ k ∈ f4, k < w.heap.size := Td.Row_lt h4
  have hB1 := below_then hB hB.size hA
  have HA := Lib.hid (Kept.of_below hA (fun k => k ∈ f3 ++ f4))
  have HS := Lib.hid (markStrs_calls x.f3 _ f3 k0 w0 _ hB1 (Td.Row_below h3 hA) (fun k hk => hb k (List.mem_append_left _ hk)) h0 (by omega))
  have HN4 := Lib.hid n4
  have HN34 := Lib.hid n34
  have HBS := Lib.hid hb
  have H4 := Lib.hid (Td.Row_below h4 hA)
  have HL3 := Lib.hid l3
  have HBX := Lib.hid hbx
  have HM1 := Lib.hid hm1
  have H1 := Lib.hid h1
  have hsz1 : w.heap.size < (w.alloc (.cells #[.int .i64 x.f0, .string x.f1, .int .i64 x.f2, .slice A3 x.f3.length c3, .slice A4 x.f4.length c4] 30)).heap.size := blk_lt hbx
  have HSZ := Lib.hid hsz1
  clear hB h3 h4 n3 n4 n34 hb hm1 hm2 hcnt h1 hA hB1 l3 l4 hbx hsz1
  go_enter Try.func37, Try.ntmps37
  go_wp2_with fail
  (with_reducible refine HS.out.mono ?_)
  rintro e w3 ⟨rfl, hr3, hb3, hk3⟩
  have h4' := Td.Row_move H4.out (fun k hk => hk3.2 k (Td.Row_lt H4.out k hk) (fun h => HN34.out k h k hk rfl))
  have hx3 := (hk3.2 w.heap.size HSZ.out (fun h => by have := HL3.out _ h; omega)).trans HBX.out
  have d4 := blk_cell hx3 4
  simp only [List.getElem?_toArray, List.getElem?_cons_zero, List.getElem?_cons_succ] at d4
  have HV := Lib.hid (markValueS_calls n x.f4 _ f4 (mkL mkS x.f3 k0).2 w0 w3 hb3 h4' HN4.out (fun k hk => HBS.out k (List.mem_append_right _ hk)) (by have := HM1.out; omega) H1.out)
  have R3 := Lib.hid hr3
  have K3 := Lib.hid hk3
  clear hr3 hb3 hk3 h4' HS hx3
  go_wp2_with fail
  (with_reducible refine HV.out.mono ?_)
  rintro e w4 ⟨rfl, hr4, hb4, hk4⟩
  have R3b := Lib.hid (Td.Row_move R3.out (fun k hk => hk4.2 k (Td.Row_lt R3.out k hk) (fun h => HN34.out k hk k h rfl)))
  have R4 := Lib.hid hr4
  have B4 := Lib.hid hb4
  have k13 := kept_trans HA.out (K3.out.mono (S' := fun k => k ∈ f3 ++ f4) (fun k hk => List.mem_append_left _ hk)) (fun k hk => .inl hk)
  have K4 := Lib.hid (kept_trans k13 hk4 (fun k hk => .inl (List.mem_append_right _ hk)))
  clear hr4 hb4 hk4 R3 K3 HV k13
  go_wp2
  go_ret
  exact ⟨rfl, R3b.out, R4.out, B4.out, K4.out⟩
end Go.Proofs.Ytchhognpijobcaa.G

/- PReachL0 -/
/-
  The law of Reach: what its walk leans on.
-/
namespace Go.Proofs.Ytchhognpijobcaa.G
open Go.RowKit Go.Proofs.YtchhognpijobcaaW.PrintWords Go.Proofs.YtchhognpijobcaaW.PrintLast Go.Proofs.YtchhognpijobcaaW.PrintMore
set_option linter.unusedVariables false
set_option linter.unusedSimpArgs false
theorem mcI_up : ∀ {n : Nat} {y : IVal}, SmI n y → mcI (n + 1) y = mcI n y
  | 0, y, h => by rw [SmI] at h; exact h.elim
  | n + 1, y, h => by
    rw [SmI] at h
    rw [mcI, mcI]
    congr 2
    exact List.map_congr_left (fun z hz => by rw [mcI_up (h.2.2.2.2 z hz)])
theorem sum_mem : ∀ (l : List Nat) (a : Nat), a ∈ l → a ≤ l.sum
  | b :: l, a, h => by
    rw [List.sum_cons]
    rcases List.mem_cons.1 h with rfl | h
    · omega
    · have := sum_mem l a h; omega
theorem reach_cnt : ∀ (p : List ByteArray) (n : Nat) (x y : IVal), SmI n x → reachV x p = some y → mcI n y ≤ mcI n x
  | [], n, x, y, h, he => by
    obtain rfl := Option.some.inj he
    exact Nat.le_refl _
  | s :: p, n, x, y, h, he => by
    rw [reachV] at he
    by_cases c : 0 ≤ stepI x s
    · rw [if_pos c] at he
      obtain ⟨z, hz, hy⟩ := Option.bind_eq_some_iff.1 he
      obtain ⟨m, rfl, _, _, _, hk⟩ := smI_parts h
      have hm := List.mem_of_getElem? hz
      have hsz := hk z hm
      have ih := reach_cnt p m z y hsz hy
      have hup := mcI_up (reachV_sm p m z y hsz hy)
      have h1 : 3 + mcI m z ≤ (x.f4.map (fun y => 3 + mcI m y)).sum := sum_mem _ _ (List.mem_map.2 ⟨z, hm, rfl⟩)
      have h3 : mcI (m + 1) x = x.f3.length + (x.f4.map (fun y => 3 + mcI m y)).sum := rfl
      omega
    · rw [if_neg c] at he; cases he
theorem zI_smN (m : Nat) : SmI (m + 1) zI := by
  rw [SmI]
  exact ⟨by decide, by decide, ⟨by decide, by intro y hy; cases hy⟩, by decide, by intro y hy; cases hy⟩
theorem reachR_sm {m : Nat} {x : IVal} (path : List ByteArray) (h : SmI (m + 1) x) : SmI (m + 1) (reachR x path).1 ∧ mcI (m + 1) (reachR x path).1 ≤ mcI (m + 1) x := by
  have hz : mcI (m + 1) zI ≤ mcI (m + 1) x := by
    have : mcI (m + 1) zI = 0 := rfl
    omega
  unfold reachR
  by_cases c : valB x = true
  · rw [if_pos c]
    cases he : reachV x path with
    | none => exact ⟨zI_smN m, hz⟩
    | some y => exact ⟨reachV_sm path _ x y h he, reach_cnt path _ x y h he⟩
  · rw [if_neg c]; exact ⟨zI_smN m, hz⟩
/-- A value handed: its two rows, with what they hold. -/
def VT (n : Nat) (b : Nat) (w : World) (y : IVal) (A3 : Option Addr) (c3 : Nat) (A4 : Option Addr) (c4 : Nat) (fp : List Nat) : Prop :=
  y.f3.length ≤ c3 ∧ Kd.C Kd.string w A3 y.f3.length y.f3 ∧ y.f4.length ≤ c4 ∧ Kd.C k30 w A4 y.f4.length y.f4 ∧
  (∃ f3 f4, fp = f3 ++ f4 ∧ Td.string.Row 9 w (.slice A3 y.f3.length c3) y.f3 f3 ∧ (tV n).Row 30 w (.slice A4 y.f4.length c4) y.f4 f4) ∧ fp.Nodup ∧ (∀ k ∈ fp, b ≤ k ∧ k < w.heap.size)
theorem VT_of {n b : Nat} {w : World} {y : IVal} {v3 v4 : Value} {fp : List Nat} (h : (tV (n + 1)).T w y [.int .i64 y.f0, .string y.f1, .int .i64 y.f2, v3, v4] fp) (hn : fp.Nodup) (hb : ∀ k ∈ fp, b ≤ k) :
    ∃ A3 c3 A4 c4, v3 = .slice A3 y.f3.length c3 ∧ v4 = .slice A4 y.f4.length c4 ∧ VT n b w y A3 c3 A4 c4 fp := by
  obtain ⟨u3, u4, f3, f4, hu, rfl, r3, r4⟩ := tV_open' h
  obtain ⟨rfl, rfl⟩ := hu
  obtain ⟨A3, c3, rfl, l3, C3⟩ := str_C r3
  obtain ⟨A4, c4, rfl, l4, C4⟩ := tV_C r4
  refine ⟨A3, c3, A4, c4, rfl, rfl, l3, C3, l4, C4, ⟨f3, f4, rfl, r3, r4⟩, hn, fun k hk => ⟨hb k hk, ?_⟩⟩
  rcases List.mem_append.1 hk with hk | hk
  · exact Td.Row_lt r3 k hk
  · exact Td.Row_lt r4 k hk
theorem VT_below {n b : Nat} {w w1 : World} {y : IVal} {A3 : Option Addr} {c3 : Nat} {A4 : Option Addr} {c4 : Nat} {fp : List Nat} (h : VT n b w y A3 c3 A4 c4 fp) (hb : Below w.heap.size w w1) : VT n b w1 y A3 c3 A4 c4 fp := by
  obtain ⟨l3, C3, l4, C4, ⟨f3, f4, e, r3, r4⟩, hn, hf⟩ := h
  exact ⟨l3, Kd.C_below C3 hb, l4, Kd.C_below C4 hb, ⟨f3, f4, e, Td.Row_below r3 hb, Td.Row_below r4 hb⟩, hn, fun k hk => ⟨(hf k hk).1, Nat.lt_of_lt_of_le (hf k hk).2 hb.size⟩⟩
/-- A value's rows stand where others are written. -/
theorem VT_kept {n b : Nat} {w w1 : World} {y : IVal} {A3 : Option Addr} {c3 : Nat} {A4 : Option Addr} {c4 : Nat} {fp S : List Nat} (h : VT n b w y A3 c3 A4 c4 fp) (hk : Kept w w1 (fun k => k ∈ S)) (hs : ∀ k ∈ S, k < b) (hz : w.heap.size ≤ w1.heap.size) : VT n b w1 y A3 c3 A4 c4 fp := by
  obtain ⟨l3, C3, l4, C4, ⟨f3, f4, e, r3, r4⟩, hn, hf⟩ := h
  have mv : ∀ k ∈ fp, w1.heap[k]? = w.heap[k]? := fun k hk' => hk.2 k (hf k hk').2 (fun hm => by have := hs k hm; have := (hf k hk').1; omega)
  subst e
  have r3' := Td.Row_move r3 (fun k hk => mv k (List.mem_append_left _ hk))
  have r4' := Td.Row_move r4 (fun k hk => mv k (List.mem_append_right _ hk))
  obtain ⟨_, _, e3, _, C3'⟩ := str_C r3'
  obtain ⟨_, _, e4, _, C4'⟩ := tV_C r4'
  cases e3
  cases e4
  exact ⟨l3, C3', l4, C4', ⟨f3, f4, rfl, r3', r4'⟩, hn, fun k hk => ⟨(hf k hk).1, Nat.lt_of_lt_of_le (hf k hk).2 hz⟩⟩
theorem toY (m : Nat) (x : LVal) (y : IVal) (hy : cVN (m + 1) x = y) (A3 : Option Addr) (c3 : Nat) (A4 : Option Addr) (c4 : Nat) (w : World) (g3 : Kd.C Kd.string w A3 x.f3.length x.f3) (l3 : x.f3.length ≤ c3) (g4 : Kd.C k25 w A4 x.f4.length x.f4) (l4 : x.f4.length ≤ c4) (hs : SmL (m + 1) x) :
    Calls Try.prog 14 #[.agg #[.int .i64 x.f0, .string x.f1, .int .i64 x.f2, .slice A3 x.f3.length c3, .slice A4 x.f4.length c4]] w fun e w' => ∃ B3 d3 B4 d4 fp, e = .returned (.agg #[.int .i64 y.f0, .string y.f1, .int .i64 y.f2, .slice B3 y.f3.length d3, .slice B4 y.f4.length d4]) ∧ VT (m + 1) w.heap.size w' y B3 d3 B4 d4 fp ∧ Below w.heap.size w w' := by
  subst hy
  refine (toV_all (m + 1) x A3 c3 A4 c4 w g3 l3 g4 l4 hs).mono ?_
  rintro e w' ⟨v3, v4, fp, rfl, hT, hn, hb, hbel⟩
  obtain ⟨B3, d3, B4, d4, rfl, rfl, hV⟩ := VT_of hT hn hb
  exact ⟨B3, d3, B4, d4, fp, rfl, hV, hbel⟩
theorem reachY (m : Nat) (y : IVal) (path : List ByteArray) (R : IVal) (b : Bool) (hR : reachR y path = (R, b)) (A3 : Option Addr) (c3 : Nat) (A4 : Option Addr) (c4 : Nat) (AP : Option Addr) (cP : Nat) (w : World) (g3 : Kd.C Kd.string w A3 y.f3.length y.f3) (l3 : y.f3.length ≤ c3) (g4 : Kd.C k30 w A4 y.f4.length y.f4) (l4 : y.f4.length ≤ c4) (gP : Kd.C Kd.string w AP path.length path) (lP : path.length ≤ cP) (hs : SmI (m + 1) y) (hp : wfStrs path) :
    Calls Try.prog 35 #[.agg #[.int .i64 y.f0, .string y.f1, .int .i64 y.f2, .slice A3 y.f3.length c3, .slice A4 y.f4.length c4], .slice AP path.length cP] w fun e w' => ∃ B3 d3 B4 d4 fp, e = .returned (.tuple #[.agg #[.int .i64 R.f0, .string R.f1, .int .i64 R.f2, .slice B3 R.f3.length d3, .slice B4 R.f4.length d4], .bool b]) ∧ VT m w.heap.size w' R B3 d3 B4 d4 fp ∧ Below w.heap.size w w' := by
  have h := implReach_calls (m + 1) y path A3 c3 A4 c4 AP cP w g3 l3 g4 l4 gP lP hs hp
  rw [hR] at h
  refine h.mono ?_
  rintro e w' ⟨v3, v4, fp, rfl, hT, hn, hb, hbel⟩
  obtain ⟨B3, d3, B4, d4, rfl, rfl, hV⟩ := VT_of hT hn hb
  exact ⟨B3, d3, B4, d4, fp, rfl, hV, hbel⟩
/-- A value marked. -/
theorem markY (n b : Nat) (y : IVal) (A3 : Option Addr) (c3 : Nat) (A4 : Option Addr) (c4 : Nat) (fp : List Nat) (k0 : Int) (w0 w : World) (hB : Below w0.heap.size w0 w) (hV : VT n b w y A3 c3 A4 c4 fp) (hb : w0.heap.size ≤ b) (h0 : 0 ≤ k0) (h1 : (mkL (mkV n) y.f4 (mkL mkS y.f3 k0).2).2 ≤ 1099511627776) :
    Calls Try.prog 37 #[.agg #[.int .i64 y.f0, .string y.f1, .int .i64 y.f2, .slice A3 y.f3.length c3, .slice A4 y.f4.length c4], .int .i64 k0] w fun e w' => e = .returned (.int .i64 (mkL (mkV n) y.f4 (mkL mkS y.f3 k0).2).2) ∧
      (Kd.C Kd.string w' A3 y.f3.length (mkL mkS y.f3 k0).1 ∧ Kd.C k30 w' A4 y.f4.length (mkL (mkV n) y.f4 (mkL mkS y.f3 k0).2).1) ∧ Below w0.heap.size w0 w' ∧ Kept w w' (fun k => k ∈ fp) := by
  obtain ⟨l3, C3, l4, C4, ⟨f3, f4, rfl, r3, r4⟩, hn, hf⟩ := hV
  refine (markValue_calls n y _ _ f3 f4 k0 w0 w hB r3 r4 hn (fun k hk => Nat.le_trans hb (hf k hk).1) h0 h1).mono ?_
  rintro e w' ⟨rfl, r3', r4', hb', hk'⟩
  obtain ⟨_, _, e3, _, C3'⟩ := str_C r3'
  obtain ⟨_, _, e4, _, C4'⟩ := tV_C r4'
  have L3 : (mkL mkS y.f3 k0).1.length = y.f3.length := mkL_len _ _ _
  have L4 : (mkL (mkV n) y.f4 (mkL mkS y.f3 k0).2).1.length = y.f4.length := mkL_len _ _ _
  rw [L3] at e3 C3'
  rw [L4] at e4 C4'
  cases e3
  cases e4
  exact ⟨rfl, ⟨C3', C4'⟩, hb', hk'⟩
end Go.Proofs.Ytchhognpijobcaa.G

/- PReachLaw -/
/-
  The law of Reach, walked: it is answered true.
-/
namespace Go.Proofs.Ytchhognpijobcaa.G
open Go.RowKit Go.Proofs.YtchhognpijobcaaW.PrintWords Go.Proofs.YtchhognpijobcaaW.PrintLast Go.Proofs.YtchhognpijobcaaW.PrintMore
set_option linter.unusedVariables false
set_option linter.unusedSimpArgs false
open Classical in
noncomputable def laws_FnExactReach.f (a0_0 : Int) (a0_1 : ByteArray) (a0_2 : Int) (l0_3 : List ByteArray) (l0_4 : List LVal) (l1 : List ByteArray) : Option Bool := if wfVal (⟨a0_0, a0_1, a0_2, l0_3, l0_4⟩ : LVal) ∧ wfStrs l1 then some true else none
theorem FnExactReach_pure (s : LVal) (x : List ByteArray) (hw : wfVal s) (hx : wfStrs x) : laws_FnExactReach.f s.f0 s.f1 s.f2 s.f3 s.f4 x = some true := by
  unfold laws_FnExactReach.f
  exact if_pos ⟨by cases s; exact hw, hx⟩
def reachT14 : Bool × List (List Nat × List Nat) := (true, [([], []), ([], []), ([1], [1]), ([0, 2, 2], [0, 2]), ([3], [3])])
def reachB14 : List Nat := [0, 0, 2, 7, 15]
theorem reach_tab14 : rtab .any (opsOf Try.f8 14) = reachT14 := by kernel_rfl
theorem reach_bits14 : waitsOk reachT14.2 reachB14 = true := by kernel_rfl
theorem heldY (m : Nat) (R : IVal) (Q3 : Option Addr) (q3 : Nat) (Q4 : Option Addr) (q4 : Nat) (K : Nat) (M : Int) (w : World) (C3 : Kd.C Kd.string w Q3 R.f3.length (mkL mkS R.f3 1).1) (l3 : R.f3.length ≤ q3) (C4 : Kd.C k30 w Q4 R.f4.length (mkL (mkV m) R.f4 (mkL mkS R.f3 1).2).1) (l4 : R.f4.length ≤ q4) (h : laws_heldValue.f K R.f0 R.f1 R.f2 (mkL mkS R.f3 1).1 (mkL (mkV m) R.f4 (mkL mkS R.f3 1).2).1 1 = some M) :
    Calls Try.prog 39 #[.agg #[.int .i64 R.f0, .string R.f1, .int .i64 R.f2, .slice Q3 R.f3.length q3, .slice Q4 R.f4.length q4], .int .i64 1] w fun e w' => e = .returned (.int .i64 M) ∧ Below w.heap.size w w' := by
  have L3 : (mkL mkS R.f3 1).1.length = R.f3.length := mkL_len _ _ _
  have L4 : (mkL (mkV m) R.f4 (mkL mkS R.f3 1).2).1.length = R.f4.length := mkL_len _ _ _
  have h0 := laws_heldValue.calls K R.f0 R.f1 R.f2 Q3 q3 (mkL mkS R.f3 1).1 Q4 q4 (mkL (mkV m) R.f4 (mkL mkS R.f3 1).2).1 1 M w (by rw [L3]; exact C3) (by rw [L3]; exact l3) (by rw [L4]; exact C4) (by rw [L4]; exact l4) h
  rw [L3, L4] at h0
  exact h0
theorem pw_old {w0 w : World} {g t : Nat} {a0 a1 a2 a3 a4 : Value} (h : w0.heap[g]? = some (.cells #[a0, a1, a2, a3, a4] t (0, 0))) (hb : Below w0.heap.size w0 w) : w.heap[g]? = some (.cells #[a0, a1, a2, a3, a4] t (0, 0)) := (hb.block _ (blk_lt h)).trans h
set_option maxHeartbeats 16000000 in
set_option maxRecDepth 100000 in
theorem reach_law (x : LVal) (path : List ByteArray) (A3 : Option Addr) (c3 : Nat) (A4 : Option Addr) (c4 : Nat) (AP : Option Addr) (cP : Nat) (w : World) (g3 : Kd.C Kd.string w A3 x.f3.length x.f3) (l3 : x.f3.length ≤ c3) (g4 : Kd.C k25 w A4 x.f4.length x.f4) (l4 : x.f4.length ≤ c4) (gP : Kd.C Kd.string w AP path.length path) (lP : path.length ≤ cP) (hw : wfVal x) (hp : wfStrs path) :
    Calls Try.prog 8 #[.agg #[.int .i64 x.f0, .string x.f1, .int .i64 x.f2, .slice A3 x.f3.length c3, .slice A4 x.f4.length c4], .slice AP path.length cP] w fun e w' => e = .returned (.bool true) ∧ Below w.heap.size w w' := by
  obtain ⟨n0, hn⟩ := hw
  obtain ⟨r1, ⟨K1, k1⟩, hL⟩ := szValue_cnt n0 x 1048576 hn (by omega) (by omega)
  have E1 := Lib.hid (k1 K1 (Nat.le_refl _))
  obtain ⟨W1, hW1⟩ : ∃ W1, w.alloc (.cells #[.int .i64 x.f0, .string x.f1, .int .i64 x.f2, .slice A3 x.f3.length c3, .slice A4 x.f4.length c4] 25) = W1 := ⟨_, rfl⟩
  have hbA := below_alloc (Below.refl w.heap.size w) (.cells #[.int .i64 x.f0, .string x.f1, .int .i64 x.f2, .slice A3 x.f3.length c3, .slice A4 x.f4.length c4] 25)
  have hb0 := blk_new w (.cells #[.int .i64 x.f0, .string x.f1, .int .i64 x.f2, .slice A3 x.f3.length c3, .slice A4 x.f4.length c4] 25)
  rw [hW1] at hbA hb0
  have HW1 := Lib.hid hW1
  have HBA := Lib.hid hbA
  have HX : Hid (W1.heap[w.heap.size]? = some (.cells #[.int .i64 x.f0, .string x.f1, .int .i64 x.f2, .slice A3 x.f3.length c3, .slice A4 x.f4.length c4] 25 (0, 0))) := Lib.hid hb0
  have G3 := Lib.hid (Kd.C_below g3 hbA)
  have G4 := Lib.hid (Kd.C_below g4 hbA)
  have GP := Lib.hid (Kd.C_below gP hbA)
  have HP := Lib.hid hp
  clear g3 g4 gP hp hW1 hbA hb0 k1
  rcases hL with hneg | ⟨hp1, hle, hsm, hcnt⟩
  · clear hn HP HX
    go_enter Try.func8, Try.ntmps8
    go_wp2_with fail
    rw [HW1.out]
    refine (laws_szValue.calls K1 x.f0 x.f1 x.f2 A3 c3 x.f3 A4 c4 x.f4 1048576 r1 W1 G3.out l3 G4.out l4 E1.out).mono ?_
    rintro e w2 ⟨rfl, hb2⟩
    have B2 := Lib.hid (below_step HBA.out hb2)
    clear hb2 HBA HW1 G3 G4 GP E1
    go_wp2
    go_ret
    exact ⟨rfl, B2.out⟩
  · have hn1 : ¬ r1 < 0 := by omega
    obtain ⟨K2, k2⟩ := szStringS_ev path r1 HP.out hp1 hle
    have E2 := Lib.hid (k2 K2 (Nat.le_refl _))
    clear k2
    by_cases c2 : szR r1 (totStrs path) < 0
    · clear hn HP HX hsm hcnt
      generalize szR r1 (totStrs path) = r2 at *
      go_enter Try.func8, Try.ntmps8
      go_wp2_with fail
      rw [HW1.out]
      refine (laws_szValue.calls K1 x.f0 x.f1 x.f2 A3 c3 x.f3 A4 c4 x.f4 1048576 r1 W1 G3.out l3 G4.out l4 E1.out).mono ?_
      rintro e w2 ⟨rfl, hb2⟩
      have B2 := Lib.hid (below_step HBA.out hb2)
      have GP2 := Lib.hid (Kd.C_below GP.out hb2)
      clear hb2 HBA HW1 G3 G4 GP E1
      go_wp2_with fail
      refine (laws_szStringS.calls K2 AP cP path r1 r2 w2 GP2.out lP E2.out).mono ?_
      rintro e w3 ⟨rfl, hd3⟩
      have B3 := Lib.hid (below_step B2.out hd3.below)
      clear hd3 B2 GP2 E2
      go_wp2
      go_ret
      exact ⟨rfl, B3.out⟩
    · have hp2 := strs_small hle (by omega : 0 ≤ szR r1 (totStrs path))
      generalize szR r1 (totStrs path) = r2 at *
      obtain ⟨m, rfl⟩ : ∃ m, n0 = m + 1 := by
        cases n0 with
        | zero => rw [wfValN] at hn; exact hn.elim
        | succ m => exact ⟨m, rfl⟩
      have hys := cVN_sm (m + 1) x hn hsm
      have hyc := mc_c (m + 1) x
      obtain ⟨y, hy⟩ : ∃ y, cVN (m + 1) x = y := ⟨_, rfl⟩
      rw [hy] at hys hyc
      obtain ⟨R, b, hR⟩ : ∃ R b, reachR y path = (R, b) := ⟨_, _, rfl⟩
      have hrs := reachR_sm path hys
      rw [hR] at hrs
      dsimp only at hrs
      obtain ⟨K3, k3⟩ := toStringS_ev path hp2.1
      obtain ⟨K4, k4⟩ := specReach_ev y path hys HP.out
      rw [hR] at k4
      obtain ⟨K5, k5⟩ := eqValue_ev (m + 1) y hys
      obtain ⟨K6, k6⟩ := eqValue_ev (m + 1) R hrs.1
      obtain ⟨K7, k7⟩ := eqStringS_ev path (by have := hp2.1; omega)
      have hmy := marks_cnt (m + 1) y 1
      rw [mcI_up hys] at hmy
      have hmr := marks_cnt m R 1
      have hmx := hrs.2
      have hM1 : (mkL (mkV (m + 1)) y.f4 (mkL mkS y.f3 1).2).2 ≤ 1099511000000 := by omega
      have hM2 : (mkL (mkV m) R.f4 (mkL mkS R.f3 1).2).2 ≤ 1099511627776 := by omega
      have hM0 : 0 ≤ (mkL (mkV (m + 1)) y.f4 (mkL mkS y.f3 1).2).2 := by
        have h1 := mkL_mono mkS_mono y.f3 1
        have h2 := mkL_mono (mkV_mono (m + 1)) y.f4 (mkL mkS y.f3 1).2
        omega
      have hM3 : 0 ≤ (mkL (mkV m) R.f4 (mkL mkS R.f3 1).2).2 := by
        have h1 := mkL_mono mkS_mono R.f3 1
        have h2 := mkL_mono (mkV_mono m) R.f4 (mkL mkS R.f3 1).2
        omega
      obtain ⟨K8, k8⟩ := heldValue_ev m R 1 hrs.1 (by omega) hM2 R.f0 R.f1 R.f2
      have hMS := mkS_count path (mkL (mkV (m + 1)) y.f4 (mkL mkS y.f3 1).2).2
      have hMS1 : ¬ (mkL mkS path (mkL (mkV (m + 1)) y.f4 (mkL mkS y.f3 1).2).2).2 < 0 := by omega
      have hMS2 : (mkL (mkV (m + 1)) y.f4 (mkL mkS y.f3 1).2).2 + path.length ≤ 1099511627776 := by have := hp2.1; omega
      have E3 := Lib.hid (k3 K3 (Nat.le_refl _))
      have E4 := Lib.hid (k4 K4 (Nat.le_refl _))
      have E5 := Lib.hid (k5 K5 (Nat.le_refl _))
      have E6 := Lib.hid (k6 K6 (Nat.le_refl _))
      have E7 := Lib.hid (k7 K7 (Nat.le_refl _))
      have E8 := Lib.hid (k8 K8 (Nat.le_refl _))
      have HSM := Lib.hid hsm
      have HYS := Lib.hid hys
      have HY := Lib.hid hy
      have HR := Lib.hid hR
      have HM1 := Lib.hid hM1
      have HM2 := Lib.hid hM2
      have HM0 := Lib.hid hM0
      have HMS1 := Lib.hid hMS1
      have HMS2 := Lib.hid hMS2
      have HM3 := Lib.hid hM3
      clear k3 k4 k5 k6 k7 k8 hp2 hyc hrs hmy hmr hmx hM1 hM2 hM0 hMS hMS1 hMS2 hM3 hsm hys hn hy hR hcnt
      go_enter Try.func8, Try.ntmps8
      go_wp2_with fail
      rw [HW1.out]
      refine (laws_szValue.calls K1 x.f0 x.f1 x.f2 A3 c3 x.f3 A4 c4 x.f4 1048576 r1 W1 G3.out l3 G4.out l4 E1.out).mono ?_
      rintro e w2 ⟨rfl, hb2⟩
      have B2 := Lib.hid hb2
      have GP2 := Lib.hid (Kd.C_below GP.out hb2)
      clear hb2 HW1 E1
      go_wp2_with fail
      refine (laws_szStringS.calls K2 AP cP path r1 r2 w2 GP2.out lP E2.out).mono ?_
      rintro e w3 ⟨rfl, hd3⟩
      have B3 := Lib.hid (below_step B2.out hd3.below)
      clear hd3 B2 GP2 E2
      obtain ⟨b0, b1, b2, b3, b4⟩ := cells5 (pw_old HX.out B3.out)
      go_wp2_with fail
      clear b0 b1 b2 b3 b4
      refine (toY m x y HY.out A3 c3 A4 c4 w3 (Kd.C_below G3.out B3.out) l3 (Kd.C_below G4.out B3.out) l4 HSM.out).mono ?_
      rintro e w4 ⟨P3, d3, P4, d4, fpa, rfl, hva, hb4⟩
      have B4 := Lib.hid (below_step B3.out hb4)
      have VA := Lib.hid hva
      clear hva hb4 B3
      go_wp2_with fail
      refine (laws_toStringS.calls K3 AP cP path path w4 (Kd.C_below GP.out B4.out) lP E3.out).mono ?_
      rintro e w5 ⟨v5, rfl, hr5, hb5⟩
      obtain ⟨A5, c5, rfl, l5, C5⟩ := Kd.R_reads hr5
      have B5 := Lib.hid (below_step B4.out hb5)
      have VA5 := Lib.hid (VT_below VA.out hb5)
      have HC5 := Lib.hid C5
      clear hr5 hb5 B4 VA C5
      go_wp2_with fail
      refine (spec_Reach.calls K4 y.f0 y.f1 y.f2 P3 d3 y.f3 P4 d4 y.f4 A5 c5 path R.f0 R.f1 R.f2 R.f3 R.f4 b w5 VA5.out.2.1 VA5.out.1 VA5.out.2.2.2.1 VA5.out.2.2.1 HC5.out l5 E4.out).mono ?_
      rintro e w6 ⟨v3, v4, rfl, hr3, hr4, hb6⟩
      obtain ⟨S3, s3, rfl, ls3, CS3⟩ := Kd.R_reads hr3
      obtain ⟨S4, s4, rfl, ls4, CS4⟩ := Kd.R_reads hr4
      have B6 := Lib.hid (below_step B5.out hb6)
      have HS3 := Lib.hid CS3
      have HS4 := Lib.hid CS4
      clear hr3 hr4 hb6 B5 VA5 HC5 CS3 CS4
      -- the box of w0
      have hne : w.heap.size < w6.heap.size := by
        have h1 := blk_lt HX.out
        have h2 := B6.out.size
        omega
      obtain ⟨b0, b1, b2, b3, b4⟩ := cells5 (pw_old HX.out B6.out)
      obtain ⟨w7, hw7⟩ : ∃ W, w6.alloc (.cells #[.int .i64 R.f0, .string R.f1, .int .i64 R.f2, .slice S3 R.f3.length s3, .slice S4 R.f4.length s4] 30) = W := ⟨_, rfl⟩
      have k7 := blk_new w6 (.cells #[.int .i64 R.f0, .string R.f1, .int .i64 R.f2, .slice S3 R.f3.length s3, .slice S4 R.f4.length s4] 30)
      have n7 := below_alloc (Below.refl w6.heap.size w6) (.cells #[.int .i64 R.f0, .string R.f1, .int .i64 R.f2, .slice S3 R.f3.length s3, .slice S4 R.f4.length s4] 30)
      rw [hw7] at k7 n7
      have HW7 := Lib.hid hw7
      have HBW : Hid (w7.heap[w6.heap.size]? = some (.cells #[.int .i64 R.f0, .string R.f1, .int .i64 R.f2, .slice S3 R.f3.length s3, .slice S4 R.f4.length s4] 30 (0, 0))) := Lib.hid k7
      have B7 := Lib.hid (below_step B6.out n7)
      have W3_ := Lib.hid (Kd.C_below HS3.out n7)
      have W4_ := Lib.hid (Kd.C_below HS4.out n7)
      clear hw7 k7 n7 B6 HS3 HS4
      go_wp2_with fail
      clear b0 b1 b2 b3 b4 hne
      rw [HW7.out]
      refine (toY m x y HY.out A3 c3 A4 c4 w7 (Kd.C_below G3.out B7.out) l3 (Kd.C_below G4.out B7.out) l4 HSM.out).mono ?_
      rintro e w8 ⟨P5, d5, P6, d6, fpx, rfl, hvx, hb8⟩
      have N8 := Lib.hid hb8
      have VX8 := Lib.hid hvx
      have FX8 : Hid (∀ k ∈ fpx, k < w8.heap.size) := Lib.hid (fun k hk => by
        obtain ⟨_, _, _, _, _, _, hf⟩ := hvx
        exact (hf k hk).2)
      clear hvx hb8 HW7
      -- the box of x0
      obtain ⟨w9, hw9⟩ : ∃ W, w8.alloc (.cells #[.int .i64 y.f0, .string y.f1, .int .i64 y.f2, .slice P5 y.f3.length d5, .slice P6 y.f4.length d6] 30) = W := ⟨_, rfl⟩
      have k9 := blk_new w8 (.cells #[.int .i64 y.f0, .string y.f1, .int .i64 y.f2, .slice P5 y.f3.length d5, .slice P6 y.f4.length d6] 30)
      have n9 := below_alloc (Below.refl w8.heap.size w8) (.cells #[.int .i64 y.f0, .string y.f1, .int .i64 y.f2, .slice P5 y.f3.length d5, .slice P6 y.f4.length d6] 30)
      rw [hw9] at k9 n9
      have HW9 := Lib.hid hw9
      have HBX : Hid (w9.heap[w8.heap.size]? = some (.cells #[.int .i64 y.f0, .string y.f1, .int .i64 y.f2, .slice P5 y.f3.length d5, .slice P6 y.f4.length d6] 30 (0, 0))) := Lib.hid k9
      have N9 := Lib.hid (below_step N8.out n9)
      have VX9 := Lib.hid (VT_below VX8.out n9)
      clear hw9 k9 n9 N8 VX8
      go_wp2_with fail
      rw [HW9.out]
      refine (laws_toStringS.calls K3 AP cP path path w9 (Kd.C_below GP.out (below_step B7.out N9.out)) lP E3.out).mono ?_
      rintro e w10 ⟨v10, rfl, hr10, hb10⟩
      have hrow := Td.Row_of_R hr10
      have hrb := Kd.R_base hr10
      obtain ⟨A10, c10, rfl, l10, C10⟩ := Kd.R_reads hr10
      have N10 := Lib.hid (below_step N9.out hb10)
      have M10 := Lib.hid hb10
      have S910 := Lib.hid hb10.size
      have S79 := Lib.hid N9.out.size
      have VX10 := Lib.hid (VT_below VX9.out hb10)
      have RX10 := Lib.hid hrow
      have RB10 : Hid (∀ k ∈ (Value.slice A10 path.length c10).ownBlock.toList, w9.heap.size ≤ k ∧ k < w10.heap.size) := Lib.hid (fun k hk => by
        have h1 := hrb k (by simpa using hk)
        have h2 := Td.Row_lt hrow k hk
        omega)
      have HC10 := Lib.hid C10
      clear hr10 hrow hrb hb10 N9 VX9 C10 HW9
      obtain ⟨b0, b1, b2, b3, b4⟩ := cells5 (pw_old HBX.out M10.out)
      go_wp2_with fail
      clear b0 b1 b2 b3 b4
      refine (reachY m y path R b HR.out P5 d5 P6 d6 A10 c10 w10 VX10.out.2.1 VX10.out.1 VX10.out.2.2.2.1 VX10.out.2.2.1 HC10.out l10 HYS.out HP.out).mono ?_
      rintro e w11 ⟨Q3, q3, Q4, q4, fpg, rfl, hvg, hb11⟩
      have N11 := Lib.hid (below_step N10.out hb11)
      have M11 := Lib.hid (below_step M10.out hb11)
      have O11 := Lib.hid hb11
      have VX11 := Lib.hid (VT_below VX10.out hb11)
      have VG11 := Lib.hid hvg
      have FG11 : Hid (∀ k ∈ fpg, w10.heap.size ≤ k ∧ k < w11.heap.size) := Lib.hid (fun k hk => by
        obtain ⟨_, _, _, _, _, _, hf⟩ := hvg
        exact hf k hk)
      have S1011 := Lib.hid hb11.size
      clear hvg hb11 N10 M10 VX10
      -- the box of g0
      have hne : w6.heap.size < w11.heap.size := by
        have h1 := blk_lt HBW.out
        have h2 := N11.out.size
        omega
      obtain ⟨b0, b1, b2, b3, b4⟩ := cells5 (pw_old HBW.out N11.out)
      obtain ⟨w12, hw12⟩ : ∃ W, w11.alloc (.cells #[.int .i64 R.f0, .string R.f1, .int .i64 R.f2, .slice Q3 R.f3.length q3, .slice Q4 R.f4.length q4] 30) = W := ⟨_, rfl⟩
      have k12 := blk_new w11 (.cells #[.int .i64 R.f0, .string R.f1, .int .i64 R.f2, .slice Q3 R.f3.length q3, .slice Q4 R.f4.length q4] 30)
      have n12 := below_alloc (Below.refl w11.heap.size w11) (.cells #[.int .i64 R.f0, .string R.f1, .int .i64 R.f2, .slice Q3 R.f3.length q3, .slice Q4 R.f4.length q4] 30)
      rw [hw12] at k12 n12
      have HW12 := Lib.hid hw12
      have HBG : Hid (w12.heap[w11.heap.size]? = some (.cells #[.int .i64 R.f0, .string R.f1, .int .i64 R.f2, .slice Q3 R.f3.length q3, .slice Q4 R.f4.length q4] 30 (0, 0))) := Lib.hid k12
      have N12 := Lib.hid (below_step N11.out n12)
      have M12 := Lib.hid (below_step M11.out n12)
      have O12 := Lib.hid (below_step O11.out n12)
      have VX12 := Lib.hid (VT_below VX11.out n12)
      have VG12 := Lib.hid (VT_below VG11.out n12)
      clear hw12 k12 n12 N11 M11 O11 VX11 VG11
      go_wp2_with fail
      clear b0 b1 b2 b3 b4 hne
      rw [HW12.out]
      refine (laws_eqValue.calls K6 R.f0 R.f1 R.f2 Q3 q3 R.f3 Q4 q4 R.f4 R.f0 R.f1 R.f2 S3 s3 R.f3 S4 s4 R.f4 true w12 VG12.out.2.1 VG12.out.1 VG12.out.2.2.2.1 VG12.out.2.2.1 (Kd.C_below W3_.out N12.out) ls3 (Kd.C_below W4_.out N12.out) ls4 E6.out).mono ?_
      rintro e w13 ⟨rfl, hb13⟩
      have N13 := Lib.hid (below_step N12.out hb13)
      have M13 := Lib.hid (below_step M12.out hb13)
      have O13 := Lib.hid (below_step O12.out hb13)
      have U13 := Lib.hid hb13
      have VX13 := Lib.hid (VT_below VX12.out hb13)
      have VG13 := Lib.hid (VT_below VG12.out hb13)
      clear hb13 N12 M12 O12 VX12 VG12 HW12
      have HSS : Hid (∀ W, Below w13.heap.size w13 W → (W.cell? ⟨w8.heap.size, 0, none⟩ = some (.int .i64 y.f0) ∧ W.cell? ⟨w8.heap.size, 1, none⟩ = some (.string y.f1) ∧ W.cell? ⟨w8.heap.size, 2, none⟩ = some (.int .i64 y.f2) ∧ W.cell? ⟨w8.heap.size, 3, none⟩ = some (.slice P5 y.f3.length d5) ∧ W.cell? ⟨w8.heap.size, 4, none⟩ = some (.slice P6 y.f4.length d6) ∧ W.cell? ⟨w.heap.size, 0, none⟩ = some (.int .i64 x.f0) ∧ W.cell? ⟨w.heap.size, 1, none⟩ = some (.string x.f1) ∧ W.cell? ⟨w.heap.size, 2, none⟩ = some (.int .i64 x.f2) ∧ W.cell? ⟨w.heap.size, 3, none⟩ = some (.slice A3 x.f3.length c3) ∧ W.cell? ⟨w.heap.size, 4, none⟩ = some (.slice A4 x.f4.length c4))) := Lib.hid (fun W hb => by
        obtain ⟨b0, b1, b2, b3, b4⟩ := cells5 (pw_old HBX.out (below_step M13.out hb))
        obtain ⟨a0, a1, a2, a3, a4⟩ := cells5 (pw_old HX.out (below_step (below_step B7.out N13.out) hb))
        exact ⟨b0, b1, b2, b3, b4, a0, a1, a2, a3, a4⟩)
      go_wp2_with fail
      have hd14 : Below w13.heap.size w13 w13.drew := below_drew1 (Below.refl _ _)
      refine start_ (n := 5) (S := fun w' => w'.cell? ⟨w8.heap.size, 0, none⟩ = some (.int .i64 y.f0) ∧ w'.cell? ⟨w8.heap.size, 1, none⟩ = some (.string y.f1) ∧ w'.cell? ⟨w8.heap.size, 2, none⟩ = some (.int .i64 y.f2) ∧ w'.cell? ⟨w8.heap.size, 3, none⟩ = some (.slice P5 y.f3.length d5) ∧ w'.cell? ⟨w8.heap.size, 4, none⟩ = some (.slice P6 y.f4.length d6) ∧ w'.cell? ⟨w.heap.size, 0, none⟩ = some (.int .i64 x.f0) ∧ w'.cell? ⟨w.heap.size, 1, none⟩ = some (.string x.f1) ∧ w'.cell? ⟨w.heap.size, 2, none⟩ = some (.int .i64 x.f2) ∧ w'.cell? ⟨w.heap.size, 3, none⟩ = some (.slice A3 x.f3.length c3) ∧ w'.cell? ⟨w.heap.size, 4, none⟩ = some (.slice A4 x.f4.length c4)) (ds := []) #[false, false, false, false, false] (by kernel_rfl) rfl rfl (HSS.out _ hd14) (fun hHeld => ?_)
      refine with_tabW reach_tab14 reach_bits14 (fun HT_ HW_ => ?_)
      generalize w13.drew = w14 at hd14 hHeld ⊢
      have D14 := Lib.hid hd14
      clear hd14
      refine take_ (i := 0) (N := some 54) (v := ?_) (a' := ?_) #[true, false, false, false, false] rfl rfl (take_ofW HT_.out HW_.out (by kernel_rfl)) (fun _ _ _ h => h) (Or.inl ⟨by rfl, ?_⟩) hHeld ?_ ?_
      rotate_left
      · rintro w' ⟨s0, s1, s2, s3, s4, s5, s6, s7, s8, s9⟩
        go_simp
        with_reducible rfl
      rotate_left
      · simp only [Act.put, List.setIfInBounds_toArray, List.set_cons_zero, List.set_cons_succ, i64_w, i32_w]
        rfl
      refine take_ (i := 1) (N := some 55) (v := ?_) (a' := ?_) #[true, true, false, false, false] rfl rfl (take_ofW HT_.out HW_.out (by kernel_rfl)) (fun _ _ _ h => h) (Or.inl ⟨by rfl, ?_⟩) hHeld ?_ ?_
      rotate_left
      · rintro w' ⟨s0, s1, s2, s3, s4, s5, s6, s7, s8, s9⟩
        go_simp
        with_reducible rfl
      rotate_left
      · simp only [Act.put, List.setIfInBounds_toArray, List.set_cons_zero, List.set_cons_succ, i64_w, i32_w]
        rfl
      refine one_ (i := 2) (N := some 56) #[true, true, true, false, false] rfl rfl (one_of HT_.out (by kernel_rfl)) (by decide) (fun K hK => ?_)
      refine goes_ Try.func14 (by kernel_rfl) rfl #[.agg #[.int .i64 x.f0, .string x.f1, .int .i64 x.f2, .slice A3 x.f3.length c3, .slice A4 x.f4.length c4]] (by rfl) rfl rfl (by (try simp only [List.map_toArray, List.map_cons, List.map_nil]); first | done | rfl) ?_
      have B14 := Lib.hid (below_step (below_step B7.out N13.out) D14.out)
      with_reducible refine (toY m x y HY.out A3 c3 A4 c4 w14 (Kd.C_below G3.out B14.out) l3 (Kd.C_below G4.out B14.out) l4 HSM.out).mono ?_
      rintro e w15 ⟨P7, d7, P8, d8, fpt, rfl, hvt, hb15⟩
      refine ⟨_, rfl, ?_⟩
      have D15 := Lib.hid (below_step D14.out hb15)
      have VT15 := Lib.hid hvt
      clear hvt hb15 hHeld
      refine hK.out _ _ (HSS.out _ D15.out) (fun hHeld => ?_)
      clear hK K
      refine norm_ (a' := ?_) ?_ ?_
      rotate_left
      · show Act.put _ (some 56) _ = _
        simp only [Act.put, List.setIfInBounds_toArray, List.set_cons_zero, List.set_cons_succ, i64_w, i32_w]
        rfl
      refine one_ (i := 3) (N := some 57) #[true, true, true, true, false] rfl rfl (one_of HT_.out (by kernel_rfl)) (by decide) (fun K hK => ?_)
      refine goes_ Try.func16 (by kernel_rfl) rfl #[.agg #[.int .i64 y.f0, .string y.f1, .int .i64 y.f2, .slice P5 y.f3.length d5, .slice P6 y.f4.length d6], .agg #[.int .i64 y.f0, .string y.f1, .int .i64 y.f2, .slice P7 y.f3.length d7, .slice P8 y.f4.length d8]] (by rfl) rfl rfl (by (try simp only [List.map_toArray, List.map_cons, List.map_nil]); first | done | rfl) ?_
      have VX15 := Lib.hid (VT_below VX13.out D15.out)
      obtain ⟨vl3, vC3, vl4, vC4, _⟩ := VX15.out
      obtain ⟨tl3, tC3, tl4, tC4, _⟩ := VT15.out
      with_reducible refine (laws_eqValue.calls K5 y.f0 y.f1 y.f2 P5 d5 y.f3 P6 d6 y.f4 y.f0 y.f1 y.f2 P7 d7 y.f3 P8 d8 y.f4 true w15 vC3 vl3 vC4 vl4 tC3 tl3 tC4 tl4 E5.out).mono ?_
      rintro e w16 ⟨rfl, hb16⟩
      refine ⟨_, rfl, ?_⟩
      have D16 := Lib.hid (below_step D15.out hb16)
      clear hb16 hHeld VT15 VX15 D15 D14 B14 vl3 vC3 vl4 vC4 tl3 tC3 tl4 tC4
      refine hK.out _ _ (HSS.out _ D16.out) (fun hHeld => ?_)
      clear hK K
      refine norm_ (a' := ?_) ?_ ?_
      rotate_left
      · show Act.put _ (some 57) _ = _
        simp only [Act.put, List.setIfInBounds_toArray, List.set_cons_zero, List.set_cons_succ, i64_w, i32_w]
        rfl
      refine pure_ (i := 4) (N := some 58) (v := ?_) (a' := ?_) #[true, true, true, true, true] rfl rfl (any_of HT_.out (by kernel_rfl)) (fun _ _ _ h => h) (Or.inl ⟨by rfl, ?_⟩) ?_ ?_
      rotate_left
      · intro w'
        go_simp
        with_reducible rfl
      rotate_left
      · simp only [Act.put, List.setIfInBounds_toArray, List.set_cons_zero, List.set_cons_succ, i64_w, i32_w]
        rfl
      refine done_ (done_of HT_.out (by kernel_rfl)) ?_
      have N16 := Lib.hid (below_step N13.out D16.out)
      have M16 := Lib.hid (below_step M13.out D16.out)
      have O16 := Lib.hid (below_step O13.out D16.out)
      have U16 := Lib.hid (below_step U13.out D16.out)
      have VX16 := Lib.hid (VT_below VX13.out D16.out)
      have VG16 := Lib.hid (VT_below VG13.out D16.out)
      clear hHeld HT_ HW_ HSS D16 N13 M13 O13 U13 VX13 VG13
      go_wp2_with fail
      refine (laws_toStringS.calls K3 AP cP path path w16 (Kd.C_below GP.out (below_step B7.out N16.out)) lP E3.out).mono ?_
      rintro e w17 ⟨v17, rfl, hr17, hb17⟩
      obtain ⟨A17, c17, rfl, l17, C17⟩ := Kd.R_reads hr17
      have N17 := Lib.hid (below_step N16.out hb17)
      have M17 := Lib.hid (below_step M16.out hb17)
      have O17 := Lib.hid (below_step O16.out hb17)
      have U17 := Lib.hid (below_step U16.out hb17)
      have VX17 := Lib.hid (VT_below VX16.out hb17)
      have VG17 := Lib.hid (VT_below VG16.out hb17)
      have HC17 := Lib.hid C17
      clear hr17 hb17 C17 N16 M16 O16 U16 VX16 VG16
      go_wp2_with fail
      refine (laws_eqStringS.calls K7 A10 c10 path A17 c17 path true w17 (Kd.C_below HC10.out O17.out) l10 HC17.out l17 E7.out).mono ?_
      rintro e w18 ⟨rfl, hd18⟩
      have hb18 := hd18.below
      have N18 := Lib.hid (below_step N17.out hb18)
      have M18 := Lib.hid (below_step M17.out hb18)
      have O18 := Lib.hid (below_step O17.out hb18)
      have U18 := Lib.hid (below_step U17.out hb18)
      have VX18 := Lib.hid (VT_below VX17.out hb18)
      have VG18 := Lib.hid (VT_below VG17.out hb18)
      clear hd18 hb18 N17 M17 O17 U17 VX17 VG17 HC17
      have FXL : Hid (∀ k ∈ fpx, k < w8.heap.size) := FX8
      have FGL : Hid (∀ k ∈ fpg, w10.heap.size ≤ k ∧ k < w11.heap.size) := FG11
      have s89 : w8.heap.size < w9.heap.size := blk_lt HBX.out
      have s79 : w7.heap.size ≤ w9.heap.size := S79.out
      have s9 : w9.heap.size ≤ w10.heap.size := S910.out
      have s11 : w10.heap.size ≤ w11.heap.size := S1011.out
      have HBG18 := Lib.hid (pw_old HBG.out U18.out)
      obtain ⟨b0, b1, b2, b3, b4⟩ := cells5 (pw_old HBX.out M18.out)
      go_wp2_with fail
      clear b0 b1 b2 b3 b4
      refine (markY (m + 1) w7.heap.size y P5 d5 P6 d6 fpx 1 w7 w18 N18.out VX18.out (Nat.le_refl _) (by omega) (by have := HM1.out; omega)).mono ?_
      rintro e w19 ⟨rfl, _, hb19, hk19⟩
      have N19 := Lib.hid hb19
      have z19 := hk19.1
      have VG19 := Lib.hid (VT_kept VG18.out hk19 (fun k hk => by have := FXL.out k hk; omega) z19)
      have HBG19 : Hid (w19.heap[w11.heap.size]? = some (.cells #[.int .i64 R.f0, .string R.f1, .int .i64 R.f2, .slice Q3 R.f3.length q3, .slice Q4 R.f4.length q4] 30 (0, 0))) := Lib.hid ((hk19.2 _ (blk_lt HBG18.out) (fun hm => by have := FXL.out _ hm; omega)).trans HBG18.out)
      have RX19 := Lib.hid (Td.Row_move (Td.Row_below RX10.out O18.out) (fun k hk => hk19.2 k (by have := RB10.out k hk; have := O18.out.size; omega) (fun hm => by have h1 := FXL.out _ hm; have h2 := RB10.out k hk; omega)))
      clear hb19 hk19 z19 N18 M18 O18 U18 VX18 VG18 HBG18
      obtain ⟨kx, hkx⟩ : ∃ kx, (mkL (mkV (m + 1)) y.f4 (mkL mkS y.f3 1).2).2 = kx := ⟨_, rfl⟩
      rw [hkx] at HM1 HM0 HMS1 HMS2 ⊢
      clear hkx
      go_wp2_with fail
      refine (markStrs_calls path (.slice A10 path.length c10) _ kx w7 w19 N19.out RX19.out (fun k hk => by have := RB10.out k hk; omega) HM0.out HMS2.out).mono ?_
      rintro e w20 ⟨rfl, _, hb20, hk20⟩
      have N20 := Lib.hid hb20
      have z20 := hk20.1
      have VG20 := Lib.hid (VT_kept VG19.out hk20 (fun k hk => (RB10.out k hk).2) z20)
      have HBG20 : Hid (w20.heap[w11.heap.size]? = some (.cells #[.int .i64 R.f0, .string R.f1, .int .i64 R.f2, .slice Q3 R.f3.length q3, .slice Q4 R.f4.length q4] 30 (0, 0))) := Lib.hid ((hk20.2 _ (blk_lt HBG19.out) (fun hm => by have := RB10.out _ hm; omega)).trans HBG19.out)
      clear hb20 hk20 z20 N19 VG19 HBG19 RX19 RX10 RB10
      obtain ⟨ks, hks⟩ : ∃ ks, (mkL mkS path kx).2 = ks := ⟨_, rfl⟩
      rw [hks] at HMS1 ⊢
      clear hks
      have hks0 : ¬ ks < 0 := by have := HMS1.out; omega
      obtain ⟨b0, b1, b2, b3, b4⟩ := cells5 HBG20.out
      obtain ⟨a0, a1, a2, a3, a4⟩ := cells5 (pw_old HBW.out N20.out)
      go_wp2_with fail
      clear b0 b1 b2 b3 b4 a0 a1 a2 a3 a4
      refine (laws_eqValue.calls K6 R.f0 R.f1 R.f2 Q3 q3 R.f3 Q4 q4 R.f4 R.f0 R.f1 R.f2 S3 s3 R.f3 S4 s4 R.f4 true w20 VG20.out.2.1 VG20.out.1 VG20.out.2.2.2.1 VG20.out.2.2.1 (Kd.C_below W3_.out N20.out) ls3 (Kd.C_below W4_.out N20.out) ls4 E6.out).mono ?_
      rintro e w29 ⟨rfl, hb29⟩
      have N29 := Lib.hid (below_step N20.out hb29)
      have VG29 := Lib.hid (VT_below VG20.out hb29)
      have HBG29 := Lib.hid (pw_old HBG20.out hb29)
      clear hb29 N20 VG20 HBG20
      obtain ⟨b0, b1, b2, b3, b4⟩ := cells5 HBG29.out
      go_wp2_with fail
      clear b0 b1 b2 b3 b4
      refine (markY m w10.heap.size R Q3 q3 Q4 q4 fpg 1 w7 w29 N29.out VG29.out (by omega) (by omega) HM2.out).mono ?_
      rintro e w21 ⟨rfl, ⟨hC3, hC4⟩, hb21, hk21⟩
      obtain ⟨lg3, _, lg4, _, _⟩ := VG29.out
      have N21 := Lib.hid hb21
      have HBG21 : Hid (w21.heap[w11.heap.size]? = some (.cells #[.int .i64 R.f0, .string R.f1, .int .i64 R.f2, .slice Q3 R.f3.length q3, .slice Q4 R.f4.length q4] 30 (0, 0))) := Lib.hid ((hk21.2 _ (blk_lt HBG29.out) (fun hm => by have := FGL.out _ hm; omega)).trans HBG29.out)
      have C3M := Lib.hid hC3
      have C4M := Lib.hid hC4
      have L3M := Lib.hid lg3
      have L4M := Lib.hid lg4
      clear hb21 hk21 hC3 hC4 lg3 lg4 N29 VG29 HBG29
      have HELD : Hid (∀ W, Below w21.heap.size w21 W → Calls Try.prog 39 #[.agg #[.int .i64 R.f0, .string R.f1, .int .i64 R.f2, .slice Q3 R.f3.length q3, .slice Q4 R.f4.length q4], .int .i64 1] W fun e w' => e = .returned (.int .i64 (mkL (mkV m) R.f4 (mkL mkS R.f3 1).2).2) ∧ Below W.heap.size W w') :=
        Lib.hid (fun W hW => heldY m R Q3 q3 Q4 q4 K8 _ W (Kd.C_below C3M.out hW) L3M.out (Kd.C_below C4M.out hW) L4M.out E8.out)
      clear C3M C4M L3M L4M E8
      obtain ⟨kg, hkg⟩ : ∃ kg, (mkL (mkV m) R.f4 (mkL mkS R.f3 1).2).2 = kg := ⟨_, rfl⟩
      rw [hkg] at HELD HM2 HM3 ⊢
      clear hkg
      have hkg0 : ¬ kg < 0 := by have := HM3.out; omega
      obtain ⟨b0, b1, b2, b3, b4⟩ := cells5 HBG21.out
      go_wp2_with fail
      clear b0 b1 b2 b3 b4
      refine (HELD.out w21 (Below.refl _ _)).mono ?_
      rintro e w22 ⟨rfl, hb22⟩
      have T22 := Lib.hid hb22
      have N22 := Lib.hid (below_step N21.out hb22)
      clear hb22 N21
      obtain ⟨a0, a1, a2, a3, a4⟩ := cells5 (pw_old HX.out (below_step B7.out N22.out))
      go_wp2_with fail
      clear a0 a1 a2 a3 a4
      refine (toY m x y HY.out A3 c3 A4 c4 w22 (Kd.C_below G3.out (below_step B7.out N22.out)) l3 (Kd.C_below G4.out (below_step B7.out N22.out)) l4 HSM.out).mono ?_
      rintro e w23 ⟨P9, d9, Pa, da, fpu, rfl, hvu, hb23⟩
      have N23 := Lib.hid (below_step N22.out hb23)
      have T23 := Lib.hid (below_step T22.out hb23)
      have VU := Lib.hid hvu
      clear hvu hb23 N22 T22
      go_wp2_with fail
      refine (laws_toStringS.calls K3 AP cP path path w23 (Kd.C_below GP.out (below_step B7.out N23.out)) lP E3.out).mono ?_
      rintro e w24 ⟨v24, rfl, hr24, hb24⟩
      obtain ⟨A24, c24, rfl, l24, C24⟩ := Kd.R_reads hr24
      have N24 := Lib.hid (below_step N23.out hb24)
      have T24 := Lib.hid (below_step T23.out hb24)
      have VU24 := Lib.hid (VT_below VU.out hb24)
      have HC24 := Lib.hid C24
      clear hr24 hb24 C24 N23 T23 VU
      go_wp2_with fail
      refine (reachY m y path R b HR.out P9 d9 Pa da A24 c24 w24 VU24.out.2.1 VU24.out.1 VU24.out.2.2.2.1 VU24.out.2.2.1 HC24.out l24 HYS.out HP.out).mono ?_
      rintro e w25 ⟨Qb, qb, Qc, qc, fph, rfl, hvh, hb25⟩
      have N25 := Lib.hid (below_step N24.out hb25)
      have T25 := Lib.hid (below_step T24.out hb25)
      have VH25 := Lib.hid hvh
      clear hvh hb25 N24 T24 VU24 HC24
      -- the box of h0
      have hne : w6.heap.size < w25.heap.size := by
        have h1 := blk_lt HBW.out
        have h2 := N25.out.size
        omega
      obtain ⟨b0, b1, b2, b3, b4⟩ := cells5 (pw_old HBW.out N25.out)
      obtain ⟨w26, hw26⟩ : ∃ W, w25.alloc (.cells #[.int .i64 R.f0, .string R.f1, .int .i64 R.f2, .slice Qb R.f3.length qb, .slice Qc R.f4.length qc] 30) = W := ⟨_, rfl⟩
      have n26 := below_alloc (Below.refl w25.heap.size w25) (.cells #[.int .i64 R.f0, .string R.f1, .int .i64 R.f2, .slice Qb R.f3.length qb, .slice Qc R.f4.length qc] 30)
      rw [hw26] at n26
      have HW26 := Lib.hid hw26
      have N26 := Lib.hid (below_step N25.out n26)
      have T26 := Lib.hid (below_step T25.out n26)
      have VH26 := Lib.hid (VT_below VH25.out n26)
      clear hw26 n26 N25 T25 VH25
      go_wp2_with fail
      clear b0 b1 b2 b3 b4 hne
      rw [HW26.out]
      refine (laws_eqValue.calls K6 R.f0 R.f1 R.f2 Qb qb R.f3 Qc qc R.f4 R.f0 R.f1 R.f2 S3 s3 R.f3 S4 s4 R.f4 true w26 VH26.out.2.1 VH26.out.1 VH26.out.2.2.2.1 VH26.out.2.2.1 (Kd.C_below W3_.out N26.out) ls3 (Kd.C_below W4_.out N26.out) ls4 E6.out).mono ?_
      rintro e w27 ⟨rfl, hb27⟩
      have N27 := Lib.hid (below_step N26.out hb27)
      have T27 := Lib.hid (below_step T26.out hb27)
      clear hb27 N26 T26 VH26 HW26
      obtain ⟨b0, b1, b2, b3, b4⟩ := cells5 (pw_old HBG21.out T27.out)
      go_wp2_with fail
      clear b0 b1 b2 b3 b4
      refine (HELD.out w27 T27.out).mono ?_
      rintro e w28 ⟨rfl, hb28⟩
      have N28 := Lib.hid (below_step N27.out hb28)
      clear hb28 N27 T27 HELD
      go_wp2
      go_ret
      exact ⟨rfl, below_step HBA.out (below_step B7.out N28.out)⟩
theorem laws_FnExactReach.calls (a0_0 : Int) (a0_1 : ByteArray) (a0_2 : Int) (A0_3 : Option Addr) (c0_3 : Nat) (l0_3 : List ByteArray) (A0_4 : Option Addr) (c0_4 : Nat) (l0_4 : List LVal) (A1 : Option Addr) (c1 : Nat) (l1 : List ByteArray) (r : Bool) (w : World) (hr0_3 : Kd.C Kd.string w A0_3 l0_3.length l0_3) (hc0_3 : l0_3.length ≤ c0_3) (hr0_4 : Kd.C k25 w A0_4 l0_4.length l0_4) (hc0_4 : l0_4.length ≤ c0_4) (hr1 : Kd.C Kd.string w A1 l1.length l1) (hc1 : l1.length ≤ c1) (h : laws_FnExactReach.f a0_0 a0_1 a0_2 l0_3 l0_4 l1 = some r) :
    Calls Try.prog 8 #[.agg #[.int .i64 a0_0, .string a0_1, .int .i64 a0_2, .slice A0_3 l0_3.length c0_3, .slice A0_4 l0_4.length c0_4], .slice A1 l1.length c1] w fun e w' => e = .returned (.bool r) ∧ Below w.heap.size w w' := by
  unfold laws_FnExactReach.f at h
  split at h
  case isTrue hc =>
    obtain rfl := Option.some.inj h
    exact reach_law ⟨a0_0, a0_1, a0_2, l0_3, l0_4⟩ l1 A0_3 c0_3 A0_4 c0_4 A1 c1 w hr0_3 hc0_3 hr0_4 hc0_4 hr1 hc1 hc.1 hc.2
  case isFalse => cases h
end Go.Proofs.Ytchhognpijobcaa.G

/- G8 -/
/- The law is walked by hand. -/

/- RowFnExactReach -/
/- The law 'FnExactReach' holds for every input: it returns true, and each argument reads behind the call as it read before. No condition. -/
namespace Go.Proofs.Ytchhognpijobcaa.fnExactReach
open Go.ChangeShapes Go.WideShapes Go.ChangeAt Go.RowKit
set_option linter.unusedVariables false
theorem own : ownKnob Try.prog.godebug = none := by kernel_rfl
theorem laidOut : laidOutB Try.prog = true := by kernel_rfl
set_option maxRecDepth 100000 in
theorem lifted (os : Os) (started : os.Started) (H : Type) (enc : TypeId × Value → H) :
    ReturnsInHanded {} Try.checked os 8 .any (Rows.fnExactReachSpec.pre6 enc Try.prog Try.f8 Rows.fnExactReachRow.domain false) (Rows.fnExactReachSpec.post enc Try.prog Try.f8 false true false false) := by
  refine returnsInHanded_of_change (C := Try.checked) own started (by kernel_rfl) Try.func8
    (ChangeSpec.witness6 (enc := enc) (C := Try.checked) false ⟨#[], #[.agg #[.int .i64 0, .string ByteArray.empty, .int .i64 0, .slice none 0 0, .slice none 0 0], .slice none 0 0], []⟩ 8 (by kernel_rfl) (by kernel_rfl) (by kernel_rfl) (by kernel_rfl)) ?_
  intro W base args ds gs before hval0 hW hcnd _
  have hval : ∀ (j : Nat) t v, Try.f8.params[j]? = some t → args[j]? = some v → Value.okWide Try.prog W .any base t v := hval0
  have hW' := hW
  obtain ⟨p, q, hA0, hV, rfl, hfz, hnd⟩ := hW
  have hA : DataW.TrodAll enc Try.prog W 0 (fun _ => true) true Try.f8.params.toList args.toList ds p := hA0
  rw [Try.params8] at hA hval
  obtain ⟨v0, vs0, d0, ds0, p0, q0, hargs0, rfl, rfl, h0, r0x⟩ := trodAll_cons hA
  obtain ⟨v1, vs1, d1, ds1, p1, q1, hargs1, rfl, rfl, h1, r1x⟩ := trodAll_cons r0x
  obtain ⟨rfl, rfl, rfl⟩ := trodAll_nil r1x
  obtain rfl : args = #[v0, v1] := by cases args; simp_all
  obtain ⟨rfl, rfl⟩ := trodVars_none hV
  have hlt := hW'.lt
  have hk0 := h0
  have hk1 := h1
  obtain ⟨s0, A0_3, c0_3, A0_4, c0_4, rfl, w0, l0_3, q0_3, l0_4, q0_4⟩ := G.kopen_value (hval 0 25 v0 rfl rfl) h0
  obtain ⟨x1, A1, c1, rfl, w1, l1, q1⟩ := G.kopen_strs (hval 1 22 v1 rfl rfl) h1
  clear hA0 hval0
  have hk := G.FnExactReach_pure s0 x1 w0 w1
  refine (G.laws_FnExactReach.calls  s0.f0 s0.f1 s0.f2 A0_3 c0_3 s0.f3 A0_4 c0_4 s0.f4 A1 c1 x1 true W q0_3 l0_3 q0_4 l0_4 q1 l1 hk).mono fun e W' ⟨he, bel⟩ => ?_
  subst he
  exact ⟨_, rfl, _, _, _, [], _, [], hW', trodAll_mk1 (shut_bool Try.underlying4 _), (trodAll_cons_mk (Below.trod laidOut (by kernel_rfl) (of_decide_eq_true (by kernel_rfl)) hk0 bel (fun x hx => hlt x (by simp [hx]))) (trodAll_cons_mk (Below.trod laidOut (by kernel_rfl) (of_decide_eq_true (by kernel_rfl)) hk1 bel (fun x hx => hlt x (by simp [hx]))) trodAll_mk0)), rfl, bel.frame _, fun h => by cases h⟩
theorem over : Rows.fnExactReachRow.holds Try.pinned (OpenSpec.ofChange Rows.fnExactReachSpec) :=
  OpenClaim.holds_of_wide 8 Try.f8 rfl rfl rfl rfl rfl rfl rfl ⟨rfl, rfl, rfl, rfl, rfl⟩ rfl rfl rfl rfl rfl (by kernel_rfl) Try.func8 (by kernel_rfl)
    (of_decide_eq_true (by kernel_rfl)) (by unfold Func.isWrapper; first | (rw [if_pos (by decide +kernel)]; kernel_rfl) | (rw [if_neg (by decide +kernel)]; exact ⟨rfl, rfl⟩))
    (fun os started H enc _ => lifted os started H enc)
theorem proved : Rows.FnExactReachSaid := over
#print axioms proved
end Go.Proofs.Ytchhognpijobcaa.fnExactReach
namespace Go.Proofs.Ytchhognpijobcaa
theorem fnExactReach_holds : Rows.FnExactReachSaid := fnExactReach.proved
end Go.Proofs.Ytchhognpijobcaa
