import Derived.Test.YtchhognpijobcaaMFnExactReach1
import Derived.Test.YtchhognpijobcaaMFnExactReach9
import Derived.Test.YtchhognpijobcaaMFnExactReach10
import Derived.Test.YtchhognpijobcaaMFnExactReach11
import Derived.Test.YtchhognpijobcaaMFnExactReach4
/- G33 -/
-- Laid by wip/g/gprint.py out of the translation, by the kit's print program. Lean checks it.
namespace Go.Proofs.Ytchhognpijobcaa.G
open Go.RowKit Go.Proofs.YtchhognpijobcaaW.PrintWords Go.Proofs.YtchhognpijobcaaW.PrintLast Go.Proofs.YtchhognpijobcaaW.PrintMore
attribute [local go_sem] max2_int min2_int max_two min_two max_three min_three max_four min_four   -- for this text's walks alone
set_option linter.unusedVariables false
set_option linter.unusedSimpArgs false

/-! ### spec_Reach: function 33 -/
def spec_Reach.f (k : Nat) (a0_0 : Int) (a0_1 : ByteArray) (a0_2 : Int) (l0_3 : List ByteArray) (l0_4 : List (S30)) (l1 : List ByteArray) : Option (Int × ByteArray × Int × List ByteArray × (List (S30)) × Bool) := (spec_ValueOk.f k a0_0 a0_1 a0_2 l0_3 l0_4).bind fun t530 => (if t530 = true then ((spec_l4Reach.f k a0_0 a0_1 a0_2 l0_3 l0_4 l1).bind fun bt531 => ((spec_l4Copy.f k bt531.1 bt531.2.1 bt531.2.2.1 bt531.2.2.2.1 bt531.2.2.2.2.1).bind fun bt542 => (some (bt542.1, bt542.2.1, bt542.2.2.1, bt542.2.2.2.1, bt542.2.2.2.2, bt531.2.2.2.2.2)))) else (some (0, (⟨#[]⟩ : ByteArray), 0, ([] : List ByteArray), ([] : List (S30)), false)))
set_option maxHeartbeats 8000000 in
set_option maxRecDepth 100000 in
theorem spec_Reach.calls (k : Nat) (a0_0 : Int) (a0_1 : ByteArray) (a0_2 : Int) (A0_3 : Option Addr) (c0_3 : Nat) (l0_3 : List ByteArray) (A0_4 : Option Addr) (c0_4 : Nat) (l0_4 : List (S30)) (A1 : Option Addr) (c1 : Nat) (l1 : List ByteArray) (r1 : Int) (r2 : ByteArray) (r3 : Int) (r4 : List ByteArray) (r5 : List (S30)) (r6 : Bool) (w : World) (hr0_3 : Kd.C Kd.string w A0_3 l0_3.length l0_3) (hc0_3 : l0_3.length ≤ c0_3) (hr0_4 : Kd.C k30 w A0_4 l0_4.length l0_4) (hc0_4 : l0_4.length ≤ c0_4) (hr1 : Kd.C Kd.string w A1 l1.length l1) (hc1 : l1.length ≤ c1) (h : spec_Reach.f k a0_0 a0_1 a0_2 l0_3 l0_4 l1 = some (r1, r2, r3, r4, r5, r6)) :
    Calls Try.prog 33 #[.agg #[.int .i64 a0_0, .string a0_1, .int .i64 a0_2, .slice A0_3 l0_3.length c0_3, .slice A0_4 l0_4.length c0_4], .slice A1 l1.length c1] w fun e w' => ∃ v3_ v4_ : Value, e = .returned (.tuple #[.agg #[.int .i64 r1, .string r2, .int .i64 r3, v3_, v4_], .bool r6]) ∧ Kd.R Kd.string 9 w' w.heap.size (fun _ => True) v3_ r4 ∧ Kd.R k30 30 w' w.heap.size (fun k_ => some k_ ≠ (v3_ : Value).ownBlock) v4_ r5 ∧ Below w.heap.size w w' := by
  have hu30 := Try.underlying30
  have HR0_3 := Aside0.mk hr0_3
  have HC0_3 := Aside0.mk hc0_3
  clear hr0_3 hc0_3
  have HR0_4 := Aside0.mk hr0_4
  have HC0_4 := Aside0.mk hc0_4
  clear hr0_4 hc0_4
  have HR1 := Aside0.mk hr1
  have HC1 := Aside0.mk hc1
  clear hr1 hc1
  have HB := Aside0.mk (Below.refl w.heap.size w)
  have H : ((spec_ValueOk.f k a0_0 a0_1 a0_2 l0_3 l0_4).bind fun t530 => (if t530 = true then ((spec_l4Reach.f k a0_0 a0_1 a0_2 l0_3 l0_4 l1).bind fun bt531 => ((spec_l4Copy.f k bt531.1 bt531.2.1 bt531.2.2.1 bt531.2.2.2.1 bt531.2.2.2.2.1).bind fun bt542 => (some (bt542.1, bt542.2.1, bt542.2.2.1, bt542.2.2.2.1, bt542.2.2.2.2, bt531.2.2.2.2.2)))) else (some (0, (⟨#[]⟩ : ByteArray), 0, ([] : List ByteArray), ([] : List (S30)), false)))) = some (r1, r2, r3, r4, r5, r6) := h
  clear h
  replace H := Option.bind_eq_some_iff.mp H
  obtain ⟨t530, A30, H⟩ := H
  replace H : (if t530 = true then ((spec_l4Reach.f k a0_0 a0_1 a0_2 l0_3 l0_4 l1).bind fun bt531 => ((spec_l4Copy.f k bt531.1 bt531.2.1 bt531.2.2.1 bt531.2.2.2.1 bt531.2.2.2.2.1).bind fun bt542 => (some (bt542.1, bt542.2.1, bt542.2.2.1, bt542.2.2.2.1, bt542.2.2.2.2, bt531.2.2.2.2.2)))) else (some (0, (⟨#[]⟩ : ByteArray), 0, ([] : List ByteArray), ([] : List (S30)), false))) = some (r1, r2, r3, r4, r5, r6) := H
  have A3 := Aside0.mk A30
  clear A30
  by_cases c4 : t530 = true
  · subst c4
    have H1 : ((spec_l4Reach.f k a0_0 a0_1 a0_2 l0_3 l0_4 l1).bind fun bt531 => ((spec_l4Copy.f k bt531.1 bt531.2.1 bt531.2.2.1 bt531.2.2.2.1 bt531.2.2.2.2.1).bind fun bt542 => (some (bt542.1, bt542.2.1, bt542.2.2.1, bt542.2.2.2.1, bt542.2.2.2.2, bt531.2.2.2.2.2)))) = some (r1, r2, r3, r4, r5, r6) := by rw [if_pos rfl] at H; exact H
    clear H
    have H := H1
    clear H1
    replace H := Option.bind_eq_some_iff.mp H
    obtain ⟨⟨t531, t532, t533, t534, t537, t540⟩, A50, H⟩ := H
    replace H : ((spec_l4Copy.f k t531 t532 t533 t534 t537).bind fun bt542 => (some (bt542.1, bt542.2.1, bt542.2.2.1, bt542.2.2.2.1, bt542.2.2.2.2, t540))) = some (r1, r2, r3, r4, r5, r6) := H
    have A5 := Aside0.mk A50
    clear A50
    replace H := Option.bind_eq_some_iff.mp H
    obtain ⟨⟨t542, t543, t544, t545, t548⟩, A60, H⟩ := H
    replace H : (some (t542, t543, t544, t545, t548, t540)) = some (r1, r2, r3, r4, r5, r6) := H
    have A6 := Aside0.mk A60
    clear A60
    simp only [Option.some.injEq, Prod.mk.injEq] at H
    obtain ⟨rfl, rfl, rfl, rfl, rfl, rfl⟩ := H
    go_enter Try.func33, Try.ntmps33
    go_wp2_with (first | ((with_reducible refine gate_dst (N := 2) rfl ?_); refine box_event ?hg (N := 2) ?hd (cs := #[.int .i64 a0_0, .string a0_1, .int .i64 a0_2, .slice A0_3 l0_3.length c0_3, .slice A0_4 l0_4.length c0_4]) (t := 30) ?hr ?_; (case hd => rfl); (case hg => rfl); (case hr => first | (go_simp; done) | (go_simp; rfl)); intro gb528 hg w7 hbox hb; have n0_ := Aside0.mk (below_step (by repeat (first | (with_reducible first | exact HB.out | apply below_alloc | apply pw_below_drewN | apply below_drew1) | exact HB.out)) hb); have n1_ := Aside0.mk (hbox); have n2_ := Aside0.mk ((by rw [hg]; exact (below_size (by repeat (first | (with_reducible first | exact HB.out | apply below_alloc | apply pw_below_drewN | apply below_drew1) | exact HB.out))) : w.heap.size ≤ gb528)); have n3_ := Aside0.mk ((by rw [hg]; exact (below_size (by repeat (first | (with_reducible first | exact HB.out | apply below_alloc | apply pw_below_drewN | apply below_drew1) | exact HB.out))) : w.heap.size ≤ gb528)); clear HB; have HB := n0_; have BK528 := n1_; have GW528 := n2_; have GE528 := n3_; clear n0_ n1_ n2_ n3_; clear hb hbox hg) | ((with_reducible refine gate_dst (N := 4) rfl ?_); refine box_event ?hg (N := 4) ?hd (cs := #[.int .i64 0, .string (⟨#[]⟩ : ByteArray), .int .i64 0, .slice none 0 0, .slice none 0 0]) (t := 30) ?hr ?_; (case hd => rfl); (case hg => rfl); (case hr => first | (go_simp; done) | (go_simp; rfl)); intro gb529 hg w8 hbox hb; have n0_ := Aside0.mk (blk_below (g := gb528) (o := .cells #[.int .i64 a0_0, .string a0_1, .int .i64 a0_2, .slice A0_3 l0_3.length c0_3, .slice A0_4 l0_4.length c0_4] 30 (0, 0)) (by (with_reducible repeat (first | refine blk_drewN ?_ _ | refine blk_drew ?_ | refine blk_alloc ?_ _)); exact BK528.out) hb); have n1_ := Aside0.mk (below_step (by repeat (first | (with_reducible first | exact HB.out | apply below_alloc | apply pw_below_drewN | apply below_drew1 | refine below_set ?_ GE528.out) | exact HB.out)) hb); have n2_ := Aside0.mk (hbox); have n3_ := Aside0.mk ((by rw [hg]; exact (below_size (by repeat (first | (with_reducible first | exact HB.out | apply below_alloc | apply pw_below_drewN | apply below_drew1 | refine below_set ?_ GE528.out) | exact HB.out))) : w.heap.size ≤ gb529)); have n4_ := Aside0.mk ((by rw [hg]; exact (below_size (by repeat (first | (with_reducible first | exact HB.out | apply below_alloc | apply pw_below_drewN | apply below_drew1 | refine below_set ?_ GE528.out) | exact HB.out))) : w.heap.size ≤ gb529)); have n5_ := Aside0.mk ((by rw [hg]; exact Nat.ne_of_lt (blk_lt (g := gb528) (o := .cells #[.int .i64 a0_0, .string a0_1, .int .i64 a0_2, .slice A0_3 l0_3.length c0_3, .slice A0_4 l0_4.length c0_4] 30 (0, 0)) (by (with_reducible repeat (first | refine blk_drewN ?_ _ | refine blk_drew ?_ | refine blk_alloc ?_ _)); exact BK528.out)) : gb528 ≠ gb529)); have n6_ := Aside0.mk ((by rw [hg]; exact Nat.ne_of_gt (blk_lt (g := gb528) (o := .cells #[.int .i64 a0_0, .string a0_1, .int .i64 a0_2, .slice A0_3 l0_3.length c0_3, .slice A0_4 l0_4.length c0_4] 30 (0, 0)) (by (with_reducible repeat (first | refine blk_drewN ?_ _ | refine blk_drew ?_ | refine blk_alloc ?_ _)); exact BK528.out)) : gb529 ≠ gb528)); clear BK528; clear HB; have BK528 := n0_; have HB := n1_; have BK529 := n2_; have GW529 := n3_; have GE529 := n4_; have NB528_529 := n5_; have NB529_528 := n6_; clear n0_ n1_ n2_ n3_ n4_ n5_ n6_; clear hb hbox hg; have hnb9 := NB528_529.out; have hnc9 := NB529_528.out; have hcz10_0 : w8.cell? ⟨gb528, 0, none⟩ = some (.int .i64 a0_0) := (blk_cell BK528.out 0).trans rfl; have hcz10_1 : w8.cell? ⟨gb528, 1, none⟩ = some (.string a0_1) := (blk_cell BK528.out 1).trans rfl; have hcz10_2 : w8.cell? ⟨gb528, 2, none⟩ = some (.int .i64 a0_2) := (blk_cell BK528.out 2).trans rfl; have hcz10_3 : w8.cell? ⟨gb528, 3, none⟩ = some (.slice A0_3 l0_3.length c0_3) := (blk_cell BK528.out 3).trans rfl; have hcz10_4 : w8.cell? ⟨gb528, 4, none⟩ = some (.slice A0_4 l0_4.length c0_4) := (blk_cell BK528.out 4).trans rfl; have hfz10_0 := blk_frozen BK528.out 0; have hfz10_1 := blk_frozen BK528.out 1; have hfz10_2 := blk_frozen BK528.out 2; have hfz10_3 := blk_frozen BK528.out 3; have hfz10_4 := blk_frozen BK528.out 4) | ((with_reducible refine gate_callee (f := 17) rfl ?_); refine goesL_ (some 9) rfl rfl Try.func17 (by kernel_rfl) rfl #[.agg #[.int .i64 a0_0, .string a0_1, .int .i64 a0_2, .slice A0_3 l0_3.length c0_3, .slice A0_4 l0_4.length c0_4]] rfl (by (try simp only [List.map_toArray, List.map_cons, List.map_nil]); first | done | rfl | (simp only [List.length_drop, List.length_take]; rfl)) ?_; (with_reducible refine (spec_ValueOk.calls k a0_0 a0_1 a0_2 _ _ l0_3 _ _ l0_4 true _ ?side1 ?side2 ?side3 ?side4 A3.out).mono ?_); (case side1 => repeat (first | exact (Kd.C_below HR0_3.out HB.out) | (with_reducible refine Kd.C_alloc ?_ _) | (with_reducible refine Kd.C_drewN ?_ _) | (with_reducible refine Kd.C_drew ?_))); (case side2 => exact HC0_3.out); (case side3 => repeat (first | exact (Kd.C_below HR0_4.out HB.out) | (with_reducible refine Kd.C_alloc ?_ _) | (with_reducible refine Kd.C_drewN ?_ _) | (with_reducible refine Kd.C_drew ?_))); (case side4 => exact HC0_4.out); rintro e w11 ⟨rfl, hb⟩; refine ⟨_, rfl, ?_⟩; have n0_ := Aside0.mk (blk_below (g := gb528) (o := .cells #[.int .i64 a0_0, .string a0_1, .int .i64 a0_2, .slice A0_3 l0_3.length c0_3, .slice A0_4 l0_4.length c0_4] 30 (0, 0)) (by (with_reducible repeat (first | refine blk_drewN ?_ _ | refine blk_drew ?_ | refine blk_alloc ?_ _)); exact BK528.out) hb); have n1_ := Aside0.mk (blk_below (g := gb529) (o := .cells #[.int .i64 0, .string (⟨#[]⟩ : ByteArray), .int .i64 0, .slice none 0 0, .slice none 0 0] 30 (0, 0)) (by (with_reducible repeat (first | refine blk_drewN ?_ _ | refine blk_drew ?_ | refine blk_alloc ?_ _)); exact BK529.out) hb); have n2_ := Aside0.mk (below_step (by repeat (first | (with_reducible first | exact HB.out | apply below_alloc | apply pw_below_drewN | apply below_drew1 | refine below_set ?_ GE528.out | refine below_set ?_ GE529.out) | exact HB.out)) hb); clear BK528; clear BK529; clear HB; have BK528 := n0_; have BK529 := n1_; have HB := n2_; clear n0_ n1_ n2_; (try clear hb); (try clear hb2); (try clear hk); (try clear hi); have hcz12_0 : w11.cell? ⟨gb528, 0, none⟩ = some (.int .i64 a0_0) := (blk_cell BK528.out 0).trans rfl; have hcz12_1 : w11.cell? ⟨gb528, 1, none⟩ = some (.string a0_1) := (blk_cell BK528.out 1).trans rfl; have hcz12_2 : w11.cell? ⟨gb528, 2, none⟩ = some (.int .i64 a0_2) := (blk_cell BK528.out 2).trans rfl; have hcz12_3 : w11.cell? ⟨gb528, 3, none⟩ = some (.slice A0_3 l0_3.length c0_3) := (blk_cell BK528.out 3).trans rfl; have hcz12_4 : w11.cell? ⟨gb528, 4, none⟩ = some (.slice A0_4 l0_4.length c0_4) := (blk_cell BK528.out 4).trans rfl; have hfz12_0 := blk_frozen BK528.out 0; have hfz12_1 := blk_frozen BK528.out 1; have hfz12_2 := blk_frozen BK528.out 2; have hfz12_3 := blk_frozen BK528.out 3; have hfz12_4 := blk_frozen BK528.out 4) | ((with_reducible refine gate_callee (f := 69) rfl ?_); refine goesL_ (some 15) rfl rfl Try.func69 (by kernel_rfl) rfl #[.agg #[.int .i64 a0_0, .string a0_1, .int .i64 a0_2, .slice A0_3 l0_3.length c0_3, .slice A0_4 l0_4.length c0_4], .slice A1 l1.length c1] rfl (by (try simp only [List.map_toArray, List.map_cons, List.map_nil]); first | done | rfl | (simp only [List.length_drop, List.length_take]; rfl)) ?_; (with_reducible refine (spec_l4Reach.calls k a0_0 a0_1 a0_2 (fun k_ => k_ < w.heap.size) _ _ l0_3 (fun k_ => k_ < w.heap.size) _ _ l0_4 _ _ l1 t531 t532 t533 t534 t537 t540 _ ?side1 ?side2 ?side3 ?side4 A5.out).mono ?_); (case side1 => exact Kd.V_mk HC0_3.out (Kd.F_below (Kd.C_F Kd.heap_string HR0_3.out) (by repeat (first | (with_reducible first | exact HB.out | apply below_alloc | apply pw_below_drewN | apply below_drew1 | refine below_set ?_ GE528.out | refine below_set ?_ GE529.out) | exact HB.out)))); (case side2 => exact Kd.V_mk HC0_4.out (Kd.F_below (Kd.C_F k30_heap HR0_4.out) (by repeat (first | (with_reducible first | exact HB.out | apply below_alloc | apply pw_below_drewN | apply below_drew1 | refine below_set ?_ GE528.out | refine below_set ?_ GE529.out) | exact HB.out)))); (case side3 => repeat (first | exact (Kd.C_below HR1.out HB.out) | (with_reducible refine Kd.C_alloc ?_ _) | (with_reducible refine Kd.C_drewN ?_ _) | (with_reducible refine Kd.C_drew ?_))); (case side4 => exact HC1.out); rintro e w13 ⟨v535, v538, rfl, ho0, ho1, hb⟩; refine ⟨_, rfl, ?_⟩; have n0_ := Aside0.mk (Kd.V_lower (Kd.V_mono (ok' := fun k_ => k_ ≠ gb528 ∧ k_ ≠ gb529) ho0 (fun k_ hk_ => ⟨Or.elim hk_ (fun hs_ => Or.elim hs_ (fun hs_ => fun e_ => Nat.not_le.2 hs_ (by rw [e_]; exact GW528.out)) (fun hs_ => fun e_ => Nat.not_le.2 hs_ (by rw [e_]; exact GW528.out))) (fun hn_ => (Kd.freshB (g := gb528) (o := .cells #[.int .i64 a0_0, .string a0_1, .int .i64 a0_2, .slice A0_3 l0_3.length c0_3, .slice A0_4 l0_4.length c0_4] 30 (0, 0)) (by (with_reducible repeat (first | refine blk_drewN ?_ _ | refine blk_drew ?_ | refine blk_alloc ?_ _)); exact BK528.out) k_ hn_)), Or.elim hk_ (fun hs_ => Or.elim hs_ (fun hs_ => fun e_ => Nat.not_le.2 hs_ (by rw [e_]; exact GW529.out)) (fun hs_ => fun e_ => Nat.not_le.2 hs_ (by rw [e_]; exact GW529.out))) (fun hn_ => (Kd.freshB (g := gb529) (o := .cells #[.int .i64 0, .string (⟨#[]⟩ : ByteArray), .int .i64 0, .slice none 0 0, .slice none 0 0] 30 (0, 0)) (by (with_reducible repeat (first | refine blk_drewN ?_ _ | refine blk_drew ?_ | refine blk_alloc ?_ _)); exact BK529.out) k_ hn_))⟩)) (below_size (by repeat (first | (with_reducible first | exact HB.out | apply below_alloc | apply pw_below_drewN | apply below_drew1 | refine below_set ?_ GE528.out | refine below_set ?_ GE529.out) | exact HB.out)))); have n1_ := Aside0.mk (Kd.V_lower (Kd.V_mono (ok' := fun k_ => k_ ≠ gb528 ∧ k_ ≠ gb529) ho1 (fun k_ hk_ => ⟨Or.elim hk_ (fun hs_ => Or.elim hs_ (fun hs_ => fun e_ => Nat.not_le.2 hs_ (by rw [e_]; exact GW528.out)) (fun hs_ => fun e_ => Nat.not_le.2 hs_ (by rw [e_]; exact GW528.out))) (fun hn_ => (Kd.freshB (g := gb528) (o := .cells #[.int .i64 a0_0, .string a0_1, .int .i64 a0_2, .slice A0_3 l0_3.length c0_3, .slice A0_4 l0_4.length c0_4] 30 (0, 0)) (by (with_reducible repeat (first | refine blk_drewN ?_ _ | refine blk_drew ?_ | refine blk_alloc ?_ _)); exact BK528.out) k_ hn_)), Or.elim hk_ (fun hs_ => Or.elim hs_ (fun hs_ => fun e_ => Nat.not_le.2 hs_ (by rw [e_]; exact GW529.out)) (fun hs_ => fun e_ => Nat.not_le.2 hs_ (by rw [e_]; exact GW529.out))) (fun hn_ => (Kd.freshB (g := gb529) (o := .cells #[.int .i64 0, .string (⟨#[]⟩ : ByteArray), .int .i64 0, .slice none 0 0, .slice none 0 0] 30 (0, 0)) (by (with_reducible repeat (first | refine blk_drewN ?_ _ | refine blk_drew ?_ | refine blk_alloc ?_ _)); exact BK529.out) k_ hn_))⟩)) (below_size (by repeat (first | (with_reducible first | exact HB.out | apply below_alloc | apply pw_below_drewN | apply below_drew1 | refine below_set ?_ GE528.out | refine below_set ?_ GE529.out) | exact HB.out)))); have n2_ := Aside0.mk (blk_below (g := gb528) (o := .cells #[.int .i64 a0_0, .string a0_1, .int .i64 a0_2, .slice A0_3 l0_3.length c0_3, .slice A0_4 l0_4.length c0_4] 30 (0, 0)) (by (with_reducible repeat (first | refine blk_drewN ?_ _ | refine blk_drew ?_ | refine blk_alloc ?_ _)); exact BK528.out) hb); have n3_ := Aside0.mk (blk_below (g := gb529) (o := .cells #[.int .i64 0, .string (⟨#[]⟩ : ByteArray), .int .i64 0, .slice none 0 0, .slice none 0 0] 30 (0, 0)) (by (with_reducible repeat (first | refine blk_drewN ?_ _ | refine blk_drew ?_ | refine blk_alloc ?_ _)); exact BK529.out) hb); have n4_ := Aside0.mk (below_step (by repeat (first | (with_reducible first | exact HB.out | apply below_alloc | apply pw_below_drewN | apply below_drew1 | refine below_set ?_ GE528.out | refine below_set ?_ GE529.out) | exact HB.out)) hb); clear BK528; clear BK529; clear HB; have HO536 := n0_; have HO539 := n1_; have BK528 := n2_; have BK529 := n3_; have HB := n4_; clear n0_ n1_ n2_ n3_ n4_; (try clear hb); (try clear hb2); (try clear hk); (try clear hi); (try clear ho0); (try clear ho1)) | ((with_reducible refine gate_dst (N := 6) rfl ?_); refine box_event ?hg (N := 6) ?hd (cs := #[.int .i64 0, .string (⟨#[]⟩ : ByteArray), .int .i64 0, .slice none 0 0, .slice none 0 0]) (t := 30) ?hr ?_; (case hd => rfl); (case hg => rfl); (case hr => first | (go_simp; done) | (go_simp; rfl)); intro gb541 hg w14 hbox hb; have n0_ := Aside0.mk (Kd.V_below (Kd.V_elderB (by (with_reducible repeat (first | apply Kd.V_alloc | apply Kd.V_drewN | apply Kd.V_drew)); exact HO536.out) gb541 (Nat.le_of_eq hg.symm)) hb); have n1_ := Aside0.mk (Kd.V_below (Kd.V_elderB (by (with_reducible repeat (first | apply Kd.V_alloc | apply Kd.V_drewN | apply Kd.V_drew)); exact HO539.out) gb541 (Nat.le_of_eq hg.symm)) hb); have n2_ := Aside0.mk (blk_below (g := gb528) (o := .cells #[.int .i64 a0_0, .string a0_1, .int .i64 a0_2, .slice A0_3 l0_3.length c0_3, .slice A0_4 l0_4.length c0_4] 30 (0, 0)) (by (with_reducible repeat (first | refine blk_drewN ?_ _ | refine blk_drew ?_ | refine blk_alloc ?_ _)); exact BK528.out) hb); have n3_ := Aside0.mk (blk_below (g := gb529) (o := .cells #[.int .i64 0, .string (⟨#[]⟩ : ByteArray), .int .i64 0, .slice none 0 0, .slice none 0 0] 30 (0, 0)) (by (with_reducible repeat (first | refine blk_drewN ?_ _ | refine blk_drew ?_ | refine blk_alloc ?_ _)); exact BK529.out) hb); have n4_ := Aside0.mk (below_step (by repeat (first | (with_reducible first | exact HB.out | apply below_alloc | apply pw_below_drewN | apply below_drew1 | refine below_set ?_ GE528.out | refine below_set ?_ GE529.out) | exact HB.out)) hb); have n5_ := Aside0.mk (hbox); have n6_ := Aside0.mk ((by rw [hg]; exact (below_size (by repeat (first | (with_reducible first | exact HB.out | apply below_alloc | apply pw_below_drewN | apply below_drew1 | refine below_set ?_ GE528.out | refine below_set ?_ GE529.out) | exact HB.out))) : w.heap.size ≤ gb541)); have n7_ := Aside0.mk ((by rw [hg]; exact (below_size (by repeat (first | (with_reducible first | exact HB.out | apply below_alloc | apply pw_below_drewN | apply below_drew1 | refine below_set ?_ GE528.out | refine below_set ?_ GE529.out) | exact HB.out))) : w.heap.size ≤ gb541)); have n8_ := Aside0.mk ((by rw [hg]; exact Nat.ne_of_lt (blk_lt (g := gb528) (o := .cells #[.int .i64 a0_0, .string a0_1, .int .i64 a0_2, .slice A0_3 l0_3.length c0_3, .slice A0_4 l0_4.length c0_4] 30 (0, 0)) (by (with_reducible repeat (first | refine blk_drewN ?_ _ | refine blk_drew ?_ | refine blk_alloc ?_ _)); exact BK528.out)) : gb528 ≠ gb541)); have n9_ := Aside0.mk ((by rw [hg]; exact Nat.ne_of_gt (blk_lt (g := gb528) (o := .cells #[.int .i64 a0_0, .string a0_1, .int .i64 a0_2, .slice A0_3 l0_3.length c0_3, .slice A0_4 l0_4.length c0_4] 30 (0, 0)) (by (with_reducible repeat (first | refine blk_drewN ?_ _ | refine blk_drew ?_ | refine blk_alloc ?_ _)); exact BK528.out)) : gb541 ≠ gb528)); have n10_ := Aside0.mk ((by rw [hg]; exact Nat.ne_of_lt (blk_lt (g := gb529) (o := .cells #[.int .i64 0, .string (⟨#[]⟩ : ByteArray), .int .i64 0, .slice none 0 0, .slice none 0 0] 30 (0, 0)) (by (with_reducible repeat (first | refine blk_drewN ?_ _ | refine blk_drew ?_ | refine blk_alloc ?_ _)); exact BK529.out)) : gb529 ≠ gb541)); have n11_ := Aside0.mk ((by rw [hg]; exact Nat.ne_of_gt (blk_lt (g := gb529) (o := .cells #[.int .i64 0, .string (⟨#[]⟩ : ByteArray), .int .i64 0, .slice none 0 0, .slice none 0 0] 30 (0, 0)) (by (with_reducible repeat (first | refine blk_drewN ?_ _ | refine blk_drew ?_ | refine blk_alloc ?_ _)); exact BK529.out)) : gb541 ≠ gb529)); clear HO536; clear HO539; clear BK528; clear BK529; clear HB; have HO536 := n0_; have HO539 := n1_; have BK528 := n2_; have BK529 := n3_; have HB := n4_; have BK541 := n5_; have GW541 := n6_; have GE541 := n7_; have NB528_541 := n8_; have NB541_528 := n9_; have NB529_541 := n10_; have NB541_529 := n11_; clear n0_ n1_ n2_ n3_ n4_ n5_ n6_ n7_ n8_ n9_ n10_ n11_; clear hb hbox hg; have hnb15 := NB541_528.out; have hnc15 := NB528_541.out; have hnb16 := NB541_529.out; have hnc16 := NB529_541.out; have hcz17_0 : w14.cell? ⟨gb541, 0, none⟩ = some (.int .i64 0) := (blk_cell BK541.out 0).trans rfl; have hcz17_1 : w14.cell? ⟨gb541, 1, none⟩ = some (.string (⟨#[]⟩ : ByteArray)) := (blk_cell BK541.out 1).trans rfl; have hcz17_2 : w14.cell? ⟨gb541, 2, none⟩ = some (.int .i64 0) := (blk_cell BK541.out 2).trans rfl; have hcz17_3 : w14.cell? ⟨gb541, 3, none⟩ = some (.slice none 0 0) := (blk_cell BK541.out 3).trans rfl; have hcz17_4 : w14.cell? ⟨gb541, 4, none⟩ = some (.slice none 0 0) := (blk_cell BK541.out 4).trans rfl; have hfz17_0 := blk_frozen BK541.out 0; have hfz17_1 := blk_frozen BK541.out 1; have hfz17_2 := blk_frozen BK541.out 2; have hfz17_3 := blk_frozen BK541.out 3; have hfz17_4 := blk_frozen BK541.out 4; obtain ⟨Ao18, co18, eo18⟩ := Kd.V_slice HO536.out; subst eo18; obtain ⟨Ao19, co19, eo19⟩ := Kd.V_slice HO539.out; subst eo19) | ((with_reducible refine gate_callee (f := 70) rfl ?_); refine goesL_ (some 19) rfl rfl Try.func70 (by kernel_rfl) rfl #[.agg #[.int .i64 t531, .string t532, .int .i64 t533, .slice Ao18 t534.length co18, .slice Ao19 t537.length co19]] rfl (by (try simp only [List.map_toArray, List.map_cons, List.map_nil]); first | done | rfl | (simp only [List.length_drop, List.length_take]; rfl)) ?_; (with_reducible refine (spec_l4Copy.calls k t531 t532 t533 _ _ t534 _ _ t537 t542 t543 t544 t545 t548 _ ?side1 ?side2 ?side3 ?side4 A6.out).mono ?_); (case side1 => refine (Kd.V_reads' (e := 9) (base := w.heap.size) (ok := fun k_ => ((k_ ≠ gb528 ∧ k_ ≠ gb529) ∧ k_ ≠ gb541)) (n := t534.length) (c := co18) ?_).2.2; exact (by (with_reducible repeat (first | apply Kd.V_alloc | apply Kd.V_drewN | apply Kd.V_drew)); exact (Kd.V_mono (Kd.V_far (p := ⟨gb541, 4, none⟩) (Kd.V_far (p := ⟨gb541, 3, none⟩) (Kd.V_far (p := ⟨gb541, 2, none⟩) (Kd.V_far (p := ⟨gb541, 1, none⟩) (Kd.V_far (p := ⟨gb541, 0, none⟩) (Kd.V_mono HO536.out (fun k_ hk => (⟨hk, hk.2⟩ : _ ∧ k_ ≠ gb541))) (fun _ hk => hk.2) (.int .i64 t531)) (fun _ hk => hk.2) (.string t532)) (fun _ hk => hk.2) (.int .i64 t533)) (fun _ hk => hk.2) (.slice Ao18 t534.length co18)) (fun _ hk => hk.2) (.slice Ao19 t537.length co19)) (fun _ h_ => h_.1)))); (case side2 => exact (Kd.V_reads' HO536.out).2.1); (case side3 => refine (Kd.V_reads' (e := 30) (base := w.heap.size) (ok := fun k_ => ((k_ ≠ gb528 ∧ k_ ≠ gb529) ∧ k_ ≠ gb541)) (n := t537.length) (c := co19) ?_).2.2; exact (by (with_reducible repeat (first | apply Kd.V_alloc | apply Kd.V_drewN | apply Kd.V_drew)); exact (Kd.V_mono (Kd.V_far (p := ⟨gb541, 4, none⟩) (Kd.V_far (p := ⟨gb541, 3, none⟩) (Kd.V_far (p := ⟨gb541, 2, none⟩) (Kd.V_far (p := ⟨gb541, 1, none⟩) (Kd.V_far (p := ⟨gb541, 0, none⟩) (Kd.V_mono HO539.out (fun k_ hk => (⟨hk, hk.2⟩ : _ ∧ k_ ≠ gb541))) (fun _ hk => hk.2) (.int .i64 t531)) (fun _ hk => hk.2) (.string t532)) (fun _ hk => hk.2) (.int .i64 t533)) (fun _ hk => hk.2) (.slice Ao18 t534.length co18)) (fun _ hk => hk.2) (.slice Ao19 t537.length co19)) (fun _ h_ => h_.1)))); (case side4 => exact (Kd.V_reads' HO539.out).2.1); rintro e w20 ⟨v546, v549, rfl, ho0, ho1, hb⟩; refine ⟨_, rfl, ?_⟩; have n0_ := Aside0.mk (Kd.V_mono (Kd.V_told (Kd.V_told (Kd.V_old (by (with_reducible repeat (first | apply Kd.V_alloc | apply Kd.V_drewN | apply Kd.V_drew)); exact (Kd.V_mono (Kd.V_far (p := ⟨gb541, 4, none⟩) (Kd.V_far (p := ⟨gb541, 3, none⟩) (Kd.V_far (p := ⟨gb541, 2, none⟩) (Kd.V_far (p := ⟨gb541, 1, none⟩) (Kd.V_far (p := ⟨gb541, 0, none⟩) (Kd.V_mono HO536.out (fun k_ hk => (⟨hk, hk.2⟩ : _ ∧ k_ ≠ gb541))) (fun _ hk => hk.2) (.int .i64 t531)) (fun _ hk => hk.2) (.string t532)) (fun _ hk => hk.2) (.int .i64 t533)) (fun _ hk => hk.2) (.slice Ao18 t534.length co18)) (fun _ hk => hk.2) (.slice Ao19 t537.length co19)) (fun _ h_ => h_.1))) hb) (Kd.R_base ho0)) (Kd.R_base ho1)) (fun _ h_ => h_.1)); have n1_ := Aside0.mk (Kd.V_mono (Kd.V_told (Kd.V_told (Kd.V_old (by (with_reducible repeat (first | apply Kd.V_alloc | apply Kd.V_drewN | apply Kd.V_drew)); exact (Kd.V_mono (Kd.V_far (p := ⟨gb541, 4, none⟩) (Kd.V_far (p := ⟨gb541, 3, none⟩) (Kd.V_far (p := ⟨gb541, 2, none⟩) (Kd.V_far (p := ⟨gb541, 1, none⟩) (Kd.V_far (p := ⟨gb541, 0, none⟩) (Kd.V_mono HO539.out (fun k_ hk => (⟨hk, hk.2⟩ : _ ∧ k_ ≠ gb541))) (fun _ hk => hk.2) (.int .i64 t531)) (fun _ hk => hk.2) (.string t532)) (fun _ hk => hk.2) (.int .i64 t533)) (fun _ hk => hk.2) (.slice Ao18 t534.length co18)) (fun _ hk => hk.2) (.slice Ao19 t537.length co19)) (fun _ h_ => h_.1))) hb) (Kd.R_base ho0)) (Kd.R_base ho1)) (fun _ h_ => h_.1)); have n2_ := Aside0.mk (Kd.R_lower ho0 (below_size (by repeat (first | (with_reducible first | exact HB.out | apply below_alloc | apply pw_below_drewN | apply below_drew1 | refine below_set ?_ GE528.out | refine below_set ?_ GE529.out | refine below_set ?_ GE541.out) | exact HB.out)))); have n3_ := Aside0.mk (Kd.R_lower (Kd.R_newB (Kd.R_newB (Kd.R_newB ho1 (g := gb528) (o := .cells #[.int .i64 a0_0, .string a0_1, .int .i64 a0_2, .slice A0_3 l0_3.length c0_3, .slice A0_4 l0_4.length c0_4] 30 (0, 0)) (by (with_reducible repeat (first | refine blk_drewN ?_ _ | refine blk_drew ?_ | refine blk_alloc ?_ _)); refine blk_far ?_ NB528_541.out _; (with_reducible repeat (first | refine blk_drewN ?_ _ | refine blk_drew ?_ | refine blk_alloc ?_ _)); refine blk_far ?_ NB528_541.out _; (with_reducible repeat (first | refine blk_drewN ?_ _ | refine blk_drew ?_ | refine blk_alloc ?_ _)); refine blk_far ?_ NB528_541.out _; (with_reducible repeat (first | refine blk_drewN ?_ _ | refine blk_drew ?_ | refine blk_alloc ?_ _)); refine blk_far ?_ NB528_541.out _; (with_reducible repeat (first | refine blk_drewN ?_ _ | refine blk_drew ?_ | refine blk_alloc ?_ _)); refine blk_far ?_ NB528_541.out _; (with_reducible repeat (first | refine blk_drewN ?_ _ | refine blk_drew ?_ | refine blk_alloc ?_ _)); exact BK528.out)) (g := gb529) (o := .cells #[.int .i64 0, .string (⟨#[]⟩ : ByteArray), .int .i64 0, .slice none 0 0, .slice none 0 0] 30 (0, 0)) (by (with_reducible repeat (first | refine blk_drewN ?_ _ | refine blk_drew ?_ | refine blk_alloc ?_ _)); refine blk_far ?_ NB529_541.out _; (with_reducible repeat (first | refine blk_drewN ?_ _ | refine blk_drew ?_ | refine blk_alloc ?_ _)); refine blk_far ?_ NB529_541.out _; (with_reducible repeat (first | refine blk_drewN ?_ _ | refine blk_drew ?_ | refine blk_alloc ?_ _)); refine blk_far ?_ NB529_541.out _; (with_reducible repeat (first | refine blk_drewN ?_ _ | refine blk_drew ?_ | refine blk_alloc ?_ _)); refine blk_far ?_ NB529_541.out _; (with_reducible repeat (first | refine blk_drewN ?_ _ | refine blk_drew ?_ | refine blk_alloc ?_ _)); refine blk_far ?_ NB529_541.out _; (with_reducible repeat (first | refine blk_drewN ?_ _ | refine blk_drew ?_ | refine blk_alloc ?_ _)); exact BK529.out)) (g := gb541) (o := .cells #[.int .i64 t531, .string t532, .int .i64 t533, .slice Ao18 t534.length co18, .slice Ao19 t537.length co19] 30 (0, 0)) (by (with_reducible repeat (first | refine blk_drewN ?_ _ | refine blk_drew ?_ | refine blk_alloc ?_ _)); refine blk_put (cs := #[.int .i64 t531, .string t532, .int .i64 t533, .slice Ao18 t534.length co18, .slice none 0 0]) ?_ 4 _ rfl; (with_reducible repeat (first | refine blk_drewN ?_ _ | refine blk_drew ?_ | refine blk_alloc ?_ _)); refine blk_put (cs := #[.int .i64 t531, .string t532, .int .i64 t533, .slice none 0 0, .slice none 0 0]) ?_ 3 _ rfl; (with_reducible repeat (first | refine blk_drewN ?_ _ | refine blk_drew ?_ | refine blk_alloc ?_ _)); refine blk_put (cs := #[.int .i64 t531, .string t532, .int .i64 0, .slice none 0 0, .slice none 0 0]) ?_ 2 _ rfl; (with_reducible repeat (first | refine blk_drewN ?_ _ | refine blk_drew ?_ | refine blk_alloc ?_ _)); refine blk_put (cs := #[.int .i64 t531, .string (⟨#[]⟩ : ByteArray), .int .i64 0, .slice none 0 0, .slice none 0 0]) ?_ 1 _ rfl; (with_reducible repeat (first | refine blk_drewN ?_ _ | refine blk_drew ?_ | refine blk_alloc ?_ _)); refine blk_put (cs := #[.int .i64 0, .string (⟨#[]⟩ : ByteArray), .int .i64 0, .slice none 0 0, .slice none 0 0]) ?_ 0 _ rfl; (with_reducible repeat (first | refine blk_drewN ?_ _ | refine blk_drew ?_ | refine blk_alloc ?_ _)); exact BK541.out)) (below_size (by repeat (first | (with_reducible first | exact HB.out | apply below_alloc | apply pw_below_drewN | apply below_drew1 | refine below_set ?_ GE528.out | refine below_set ?_ GE529.out | refine below_set ?_ GE541.out) | exact HB.out)))); have n4_ := Aside0.mk (blk_below (g := gb528) (o := .cells #[.int .i64 a0_0, .string a0_1, .int .i64 a0_2, .slice A0_3 l0_3.length c0_3, .slice A0_4 l0_4.length c0_4] 30 (0, 0)) (by (with_reducible repeat (first | refine blk_drewN ?_ _ | refine blk_drew ?_ | refine blk_alloc ?_ _)); refine blk_far ?_ NB528_541.out _; (with_reducible repeat (first | refine blk_drewN ?_ _ | refine blk_drew ?_ | refine blk_alloc ?_ _)); refine blk_far ?_ NB528_541.out _; (with_reducible repeat (first | refine blk_drewN ?_ _ | refine blk_drew ?_ | refine blk_alloc ?_ _)); refine blk_far ?_ NB528_541.out _; (with_reducible repeat (first | refine blk_drewN ?_ _ | refine blk_drew ?_ | refine blk_alloc ?_ _)); refine blk_far ?_ NB528_541.out _; (with_reducible repeat (first | refine blk_drewN ?_ _ | refine blk_drew ?_ | refine blk_alloc ?_ _)); refine blk_far ?_ NB528_541.out _; (with_reducible repeat (first | refine blk_drewN ?_ _ | refine blk_drew ?_ | refine blk_alloc ?_ _)); exact BK528.out) hb); have n5_ := Aside0.mk (blk_below (g := gb529) (o := .cells #[.int .i64 0, .string (⟨#[]⟩ : ByteArray), .int .i64 0, .slice none 0 0, .slice none 0 0] 30 (0, 0)) (by (with_reducible repeat (first | refine blk_drewN ?_ _ | refine blk_drew ?_ | refine blk_alloc ?_ _)); refine blk_far ?_ NB529_541.out _; (with_reducible repeat (first | refine blk_drewN ?_ _ | refine blk_drew ?_ | refine blk_alloc ?_ _)); refine blk_far ?_ NB529_541.out _; (with_reducible repeat (first | refine blk_drewN ?_ _ | refine blk_drew ?_ | refine blk_alloc ?_ _)); refine blk_far ?_ NB529_541.out _; (with_reducible repeat (first | refine blk_drewN ?_ _ | refine blk_drew ?_ | refine blk_alloc ?_ _)); refine blk_far ?_ NB529_541.out _; (with_reducible repeat (first | refine blk_drewN ?_ _ | refine blk_drew ?_ | refine blk_alloc ?_ _)); refine blk_far ?_ NB529_541.out _; (with_reducible repeat (first | refine blk_drewN ?_ _ | refine blk_drew ?_ | refine blk_alloc ?_ _)); exact BK529.out) hb); have n6_ := Aside0.mk (blk_below (g := gb541) (o := .cells #[.int .i64 t531, .string t532, .int .i64 t533, .slice Ao18 t534.length co18, .slice Ao19 t537.length co19] 30 (0, 0)) (by (with_reducible repeat (first | refine blk_drewN ?_ _ | refine blk_drew ?_ | refine blk_alloc ?_ _)); refine blk_put (cs := #[.int .i64 t531, .string t532, .int .i64 t533, .slice Ao18 t534.length co18, .slice none 0 0]) ?_ 4 _ rfl; (with_reducible repeat (first | refine blk_drewN ?_ _ | refine blk_drew ?_ | refine blk_alloc ?_ _)); refine blk_put (cs := #[.int .i64 t531, .string t532, .int .i64 t533, .slice none 0 0, .slice none 0 0]) ?_ 3 _ rfl; (with_reducible repeat (first | refine blk_drewN ?_ _ | refine blk_drew ?_ | refine blk_alloc ?_ _)); refine blk_put (cs := #[.int .i64 t531, .string t532, .int .i64 0, .slice none 0 0, .slice none 0 0]) ?_ 2 _ rfl; (with_reducible repeat (first | refine blk_drewN ?_ _ | refine blk_drew ?_ | refine blk_alloc ?_ _)); refine blk_put (cs := #[.int .i64 t531, .string (⟨#[]⟩ : ByteArray), .int .i64 0, .slice none 0 0, .slice none 0 0]) ?_ 1 _ rfl; (with_reducible repeat (first | refine blk_drewN ?_ _ | refine blk_drew ?_ | refine blk_alloc ?_ _)); refine blk_put (cs := #[.int .i64 0, .string (⟨#[]⟩ : ByteArray), .int .i64 0, .slice none 0 0, .slice none 0 0]) ?_ 0 _ rfl; (with_reducible repeat (first | refine blk_drewN ?_ _ | refine blk_drew ?_ | refine blk_alloc ?_ _)); exact BK541.out) hb); have n7_ := Aside0.mk (below_step (by repeat (first | (with_reducible first | exact HB.out | apply below_alloc | apply pw_below_drewN | apply below_drew1 | refine below_set ?_ GE528.out | refine below_set ?_ GE529.out | refine below_set ?_ GE541.out) | exact HB.out)) hb); clear HO536; clear HO539; clear BK528; clear BK529; clear BK541; clear HB; have HO536 := n0_; have HO539 := n1_; have HO547 := n2_; have HO550 := n3_; have BK528 := n4_; have BK529 := n5_; have BK541 := n6_; have HB := n7_; clear n0_ n1_ n2_ n3_ n4_ n5_ n6_ n7_; (try clear hb); (try clear hb2); (try clear hk); (try clear hi); (try clear ho0); (try clear ho1); have hcz21_0 : w20.cell? ⟨gb529, 0, none⟩ = some (.int .i64 0) := (blk_cell BK529.out 0).trans rfl; have hcz21_1 : w20.cell? ⟨gb529, 1, none⟩ = some (.string (⟨#[]⟩ : ByteArray)) := (blk_cell BK529.out 1).trans rfl; have hcz21_2 : w20.cell? ⟨gb529, 2, none⟩ = some (.int .i64 0) := (blk_cell BK529.out 2).trans rfl; have hcz21_3 : w20.cell? ⟨gb529, 3, none⟩ = some (.slice none 0 0) := (blk_cell BK529.out 3).trans rfl; have hcz21_4 : w20.cell? ⟨gb529, 4, none⟩ = some (.slice none 0 0) := (blk_cell BK529.out 4).trans rfl; have hfz21_0 := blk_frozen BK529.out 0; have hfz21_1 := blk_frozen BK529.out 1; have hfz21_2 := blk_frozen BK529.out 2; have hfz21_3 := blk_frozen BK529.out 3; have hfz21_4 := blk_frozen BK529.out 4; obtain ⟨Ao22, co22, eo22⟩ := Kd.R_slice HO547.out; subst eo22; obtain ⟨Ao23, co23, eo23⟩ := Kd.R_slice HO550.out; subst eo23))
    refine bodyPost_ret (results_ct rfl _ _ gb529 30 #[.int .i64 t542, .string t543, .int .i64 t544, .slice Ao22 t545.length co22, .slice Ao23 t548.length co23] (0, 0) _ rfl (by (with_reducible repeat (first | refine blk_drewN ?_ _ | refine blk_drew ?_ | refine blk_alloc ?_ _)); refine blk_put (cs := #[.int .i64 t542, .string t543, .int .i64 t544, .slice Ao22 t545.length co22, .slice none 0 0]) ?_ 4 _ rfl; (with_reducible repeat (first | refine blk_drewN ?_ _ | refine blk_drew ?_ | refine blk_alloc ?_ _)); refine blk_put (cs := #[.int .i64 t542, .string t543, .int .i64 t544, .slice none 0 0, .slice none 0 0]) ?_ 3 _ rfl; (with_reducible repeat (first | refine blk_drewN ?_ _ | refine blk_drew ?_ | refine blk_alloc ?_ _)); refine blk_put (cs := #[.int .i64 t542, .string t543, .int .i64 0, .slice none 0 0, .slice none 0 0]) ?_ 2 _ rfl; (with_reducible repeat (first | refine blk_drewN ?_ _ | refine blk_drew ?_ | refine blk_alloc ?_ _)); refine blk_put (cs := #[.int .i64 t542, .string (⟨#[]⟩ : ByteArray), .int .i64 0, .slice none 0 0, .slice none 0 0]) ?_ 1 _ rfl; (with_reducible repeat (first | refine blk_drewN ?_ _ | refine blk_drew ?_ | refine blk_alloc ?_ _)); refine blk_put (cs := #[.int .i64 0, .string (⟨#[]⟩ : ByteArray), .int .i64 0, .slice none 0 0, .slice none 0 0]) ?_ 0 _ rfl; (with_reducible repeat (first | refine blk_drewN ?_ _ | refine blk_drew ?_ | refine blk_alloc ?_ _)); exact BK529.out) Try.underlying30 rfl (by kernel_rfl)) rfl ?_
    exact ⟨_, _, by first | rfl | (simp [errW_none, errW_some] <;> rfl) | (simp [*, errW_none, errW_some] <;> rfl), by (with_reducible repeat (first | apply Kd.R_alloc | apply Kd.R_drewN | apply Kd.R_drew)); exact Kd.R_mono (Kd.R_far (p := ⟨gb529, 4, none⟩) (Kd.R_far (p := ⟨gb529, 3, none⟩) (Kd.R_far (p := ⟨gb529, 2, none⟩) (Kd.R_far (p := ⟨gb529, 1, none⟩) (Kd.R_far (p := ⟨gb529, 0, none⟩) (Kd.R_types HO547.out BK529.out (by decide)) (fun _ hk => hk.2) (.int .i64 t542)) (fun _ hk => hk.2) (.string t543)) (fun _ hk => hk.2) (.int .i64 t544)) (fun _ hk => hk.2) (.slice Ao22 t545.length co22)) (fun _ hk => hk.2) (.slice Ao23 t548.length co23)) (fun _ hk => trivial), by (with_reducible repeat (first | apply Kd.R_alloc | apply Kd.R_drewN | apply Kd.R_drew)); exact Kd.R_mono (Kd.R_far (p := ⟨gb529, 4, none⟩) (Kd.R_far (p := ⟨gb529, 3, none⟩) (Kd.R_far (p := ⟨gb529, 2, none⟩) (Kd.R_far (p := ⟨gb529, 1, none⟩) (Kd.R_far (p := ⟨gb529, 0, none⟩) (Kd.R_mono HO550.out (fun k_ hk => (⟨hk, hk.1.2⟩ : _ ∧ k_ ≠ gb529))) (fun _ hk => hk.2) (.int .i64 t542)) (fun _ hk => hk.2) (.string t543)) (fun _ hk => hk.2) (.int .i64 t544)) (fun _ hk => hk.2) (.slice Ao22 t545.length co22)) (fun _ hk => hk.2) (.slice Ao23 t548.length co23)) (fun _ hk => hk.1.1.1.1), by repeat (first | (with_reducible first | exact HB.out | apply below_alloc | apply pw_below_drewN | apply below_drew1 | refine below_set ?_ GE528.out | refine below_set ?_ GE529.out | refine below_set ?_ GE541.out) | exact HB.out)⟩
  · replace c4 := Bool.eq_false_iff.mpr c4
    subst c4
    have H1 : (some (0, (⟨#[]⟩ : ByteArray), 0, ([] : List ByteArray), ([] : List (S30)), false)) = some (r1, r2, r3, r4, r5, r6) := by rw [if_neg (show ¬ (false = true) by decide)] at H; exact H
    clear H
    have H := H1
    clear H1
    simp only [Option.some.injEq, Prod.mk.injEq] at H
    obtain ⟨rfl, rfl, rfl, rfl, rfl, rfl⟩ := H
    go_enter Try.func33, Try.ntmps33
    go_wp2_with (first | ((with_reducible refine gate_dst (N := 2) rfl ?_); refine box_event ?hg (N := 2) ?hd (cs := #[.int .i64 a0_0, .string a0_1, .int .i64 a0_2, .slice A0_3 l0_3.length c0_3, .slice A0_4 l0_4.length c0_4]) (t := 30) ?hr ?_; (case hd => rfl); (case hg => rfl); (case hr => first | (go_simp; done) | (go_simp; rfl)); intro gb528 hg w24 hbox hb; have n0_ := Aside0.mk (below_step (by repeat (first | (with_reducible first | exact HB.out | apply below_alloc | apply pw_below_drewN | apply below_drew1) | exact HB.out)) hb); have n1_ := Aside0.mk (hbox); have n2_ := Aside0.mk ((by rw [hg]; exact (below_size (by repeat (first | (with_reducible first | exact HB.out | apply below_alloc | apply pw_below_drewN | apply below_drew1) | exact HB.out))) : w.heap.size ≤ gb528)); have n3_ := Aside0.mk ((by rw [hg]; exact (below_size (by repeat (first | (with_reducible first | exact HB.out | apply below_alloc | apply pw_below_drewN | apply below_drew1) | exact HB.out))) : w.heap.size ≤ gb528)); clear HB; have HB := n0_; have BK528 := n1_; have GW528 := n2_; have GE528 := n3_; clear n0_ n1_ n2_ n3_; clear hb hbox hg) | ((with_reducible refine gate_dst (N := 4) rfl ?_); refine box_event ?hg (N := 4) ?hd (cs := #[.int .i64 0, .string (⟨#[]⟩ : ByteArray), .int .i64 0, .slice none 0 0, .slice none 0 0]) (t := 30) ?hr ?_; (case hd => rfl); (case hg => rfl); (case hr => first | (go_simp; done) | (go_simp; rfl)); intro gb529 hg w25 hbox hb; have n0_ := Aside0.mk (blk_below (g := gb528) (o := .cells #[.int .i64 a0_0, .string a0_1, .int .i64 a0_2, .slice A0_3 l0_3.length c0_3, .slice A0_4 l0_4.length c0_4] 30 (0, 0)) (by (with_reducible repeat (first | refine blk_drewN ?_ _ | refine blk_drew ?_ | refine blk_alloc ?_ _)); exact BK528.out) hb); have n1_ := Aside0.mk (below_step (by repeat (first | (with_reducible first | exact HB.out | apply below_alloc | apply pw_below_drewN | apply below_drew1 | refine below_set ?_ GE528.out) | exact HB.out)) hb); have n2_ := Aside0.mk (hbox); have n3_ := Aside0.mk ((by rw [hg]; exact (below_size (by repeat (first | (with_reducible first | exact HB.out | apply below_alloc | apply pw_below_drewN | apply below_drew1 | refine below_set ?_ GE528.out) | exact HB.out))) : w.heap.size ≤ gb529)); have n4_ := Aside0.mk ((by rw [hg]; exact (below_size (by repeat (first | (with_reducible first | exact HB.out | apply below_alloc | apply pw_below_drewN | apply below_drew1 | refine below_set ?_ GE528.out) | exact HB.out))) : w.heap.size ≤ gb529)); have n5_ := Aside0.mk ((by rw [hg]; exact Nat.ne_of_lt (blk_lt (g := gb528) (o := .cells #[.int .i64 a0_0, .string a0_1, .int .i64 a0_2, .slice A0_3 l0_3.length c0_3, .slice A0_4 l0_4.length c0_4] 30 (0, 0)) (by (with_reducible repeat (first | refine blk_drewN ?_ _ | refine blk_drew ?_ | refine blk_alloc ?_ _)); exact BK528.out)) : gb528 ≠ gb529)); have n6_ := Aside0.mk ((by rw [hg]; exact Nat.ne_of_gt (blk_lt (g := gb528) (o := .cells #[.int .i64 a0_0, .string a0_1, .int .i64 a0_2, .slice A0_3 l0_3.length c0_3, .slice A0_4 l0_4.length c0_4] 30 (0, 0)) (by (with_reducible repeat (first | refine blk_drewN ?_ _ | refine blk_drew ?_ | refine blk_alloc ?_ _)); exact BK528.out)) : gb529 ≠ gb528)); clear BK528; clear HB; have BK528 := n0_; have HB := n1_; have BK529 := n2_; have GW529 := n3_; have GE529 := n4_; have NB528_529 := n5_; have NB529_528 := n6_; clear n0_ n1_ n2_ n3_ n4_ n5_ n6_; clear hb hbox hg; have hnb26 := NB528_529.out; have hnc26 := NB529_528.out; have hcz27_0 : w25.cell? ⟨gb528, 0, none⟩ = some (.int .i64 a0_0) := (blk_cell BK528.out 0).trans rfl; have hcz27_1 : w25.cell? ⟨gb528, 1, none⟩ = some (.string a0_1) := (blk_cell BK528.out 1).trans rfl; have hcz27_2 : w25.cell? ⟨gb528, 2, none⟩ = some (.int .i64 a0_2) := (blk_cell BK528.out 2).trans rfl; have hcz27_3 : w25.cell? ⟨gb528, 3, none⟩ = some (.slice A0_3 l0_3.length c0_3) := (blk_cell BK528.out 3).trans rfl; have hcz27_4 : w25.cell? ⟨gb528, 4, none⟩ = some (.slice A0_4 l0_4.length c0_4) := (blk_cell BK528.out 4).trans rfl; have hfz27_0 := blk_frozen BK528.out 0; have hfz27_1 := blk_frozen BK528.out 1; have hfz27_2 := blk_frozen BK528.out 2; have hfz27_3 := blk_frozen BK528.out 3; have hfz27_4 := blk_frozen BK528.out 4) | ((with_reducible refine gate_callee (f := 17) rfl ?_); refine goesL_ (some 9) rfl rfl Try.func17 (by kernel_rfl) rfl #[.agg #[.int .i64 a0_0, .string a0_1, .int .i64 a0_2, .slice A0_3 l0_3.length c0_3, .slice A0_4 l0_4.length c0_4]] rfl (by (try simp only [List.map_toArray, List.map_cons, List.map_nil]); first | done | rfl | (simp only [List.length_drop, List.length_take]; rfl)) ?_; (with_reducible refine (spec_ValueOk.calls k a0_0 a0_1 a0_2 _ _ l0_3 _ _ l0_4 false _ ?side1 ?side2 ?side3 ?side4 A3.out).mono ?_); (case side1 => repeat (first | exact (Kd.C_below HR0_3.out HB.out) | (with_reducible refine Kd.C_alloc ?_ _) | (with_reducible refine Kd.C_drewN ?_ _) | (with_reducible refine Kd.C_drew ?_))); (case side2 => exact HC0_3.out); (case side3 => repeat (first | exact (Kd.C_below HR0_4.out HB.out) | (with_reducible refine Kd.C_alloc ?_ _) | (with_reducible refine Kd.C_drewN ?_ _) | (with_reducible refine Kd.C_drew ?_))); (case side4 => exact HC0_4.out); rintro e w28 ⟨rfl, hb⟩; refine ⟨_, rfl, ?_⟩; have n0_ := Aside0.mk (blk_below (g := gb528) (o := .cells #[.int .i64 a0_0, .string a0_1, .int .i64 a0_2, .slice A0_3 l0_3.length c0_3, .slice A0_4 l0_4.length c0_4] 30 (0, 0)) (by (with_reducible repeat (first | refine blk_drewN ?_ _ | refine blk_drew ?_ | refine blk_alloc ?_ _)); exact BK528.out) hb); have n1_ := Aside0.mk (blk_below (g := gb529) (o := .cells #[.int .i64 0, .string (⟨#[]⟩ : ByteArray), .int .i64 0, .slice none 0 0, .slice none 0 0] 30 (0, 0)) (by (with_reducible repeat (first | refine blk_drewN ?_ _ | refine blk_drew ?_ | refine blk_alloc ?_ _)); exact BK529.out) hb); have n2_ := Aside0.mk (below_step (by repeat (first | (with_reducible first | exact HB.out | apply below_alloc | apply pw_below_drewN | apply below_drew1 | refine below_set ?_ GE528.out | refine below_set ?_ GE529.out) | exact HB.out)) hb); clear BK528; clear BK529; clear HB; have BK528 := n0_; have BK529 := n1_; have HB := n2_; clear n0_ n1_ n2_; (try clear hb); (try clear hb2); (try clear hk); (try clear hi); have hcz29_0 : w28.cell? ⟨gb529, 0, none⟩ = some (.int .i64 0) := (blk_cell BK529.out 0).trans rfl; have hcz29_1 : w28.cell? ⟨gb529, 1, none⟩ = some (.string (⟨#[]⟩ : ByteArray)) := (blk_cell BK529.out 1).trans rfl; have hcz29_2 : w28.cell? ⟨gb529, 2, none⟩ = some (.int .i64 0) := (blk_cell BK529.out 2).trans rfl; have hcz29_3 : w28.cell? ⟨gb529, 3, none⟩ = some (.slice none 0 0) := (blk_cell BK529.out 3).trans rfl; have hcz29_4 : w28.cell? ⟨gb529, 4, none⟩ = some (.slice none 0 0) := (blk_cell BK529.out 4).trans rfl; have hfz29_0 := blk_frozen BK529.out 0; have hfz29_1 := blk_frozen BK529.out 1; have hfz29_2 := blk_frozen BK529.out 2; have hfz29_3 := blk_frozen BK529.out 3; have hfz29_4 := blk_frozen BK529.out 4))
    refine bodyPost_ret (results_ct rfl _ _ gb529 30 #[.int .i64 0, .string (⟨#[]⟩ : ByteArray), .int .i64 0, .slice none 0 0, .slice none 0 0] (0, 0) _ rfl (by (with_reducible repeat (first | refine blk_drewN ?_ _ | refine blk_drew ?_ | refine blk_alloc ?_ _)); refine blk_put (cs := #[.int .i64 0, .string (⟨#[]⟩ : ByteArray), .int .i64 0, .slice none 0 0, .slice none 0 0]) ?_ 4 _ rfl; (with_reducible repeat (first | refine blk_drewN ?_ _ | refine blk_drew ?_ | refine blk_alloc ?_ _)); refine blk_put (cs := #[.int .i64 0, .string (⟨#[]⟩ : ByteArray), .int .i64 0, .slice none 0 0, .slice none 0 0]) ?_ 3 _ rfl; (with_reducible repeat (first | refine blk_drewN ?_ _ | refine blk_drew ?_ | refine blk_alloc ?_ _)); refine blk_put (cs := #[.int .i64 0, .string (⟨#[]⟩ : ByteArray), .int .i64 0, .slice none 0 0, .slice none 0 0]) ?_ 2 _ rfl; (with_reducible repeat (first | refine blk_drewN ?_ _ | refine blk_drew ?_ | refine blk_alloc ?_ _)); refine blk_put (cs := #[.int .i64 0, .string (⟨#[]⟩ : ByteArray), .int .i64 0, .slice none 0 0, .slice none 0 0]) ?_ 1 _ rfl; (with_reducible repeat (first | refine blk_drewN ?_ _ | refine blk_drew ?_ | refine blk_alloc ?_ _)); refine blk_put (cs := #[.int .i64 0, .string (⟨#[]⟩ : ByteArray), .int .i64 0, .slice none 0 0, .slice none 0 0]) ?_ 0 _ rfl; (with_reducible repeat (first | refine blk_drewN ?_ _ | refine blk_drew ?_ | refine blk_alloc ?_ _)); exact BK529.out) Try.underlying30 rfl (by kernel_rfl)) rfl ?_
    exact ⟨_, _, by first | rfl | (simp [errW_none, errW_some] <;> rfl) | (simp [*, errW_none, errW_some] <;> rfl), by first | exact Kd.R_nil _ _ _ _ _ | exact Kd.N_nil _ _ _ _ _ | exact Kd.V_nil _ _ _ _ _ | exact Kd.Q_nil _ _ _ _ _ | exact Kd.S_nil _ _ _ _ _, by first | exact Kd.R_nil _ _ _ _ _ | exact Kd.N_nil _ _ _ _ _ | exact Kd.V_nil _ _ _ _ _ | exact Kd.Q_nil _ _ _ _ _ | exact Kd.S_nil _ _ _ _ _, by repeat (first | (with_reducible first | exact HB.out | apply below_alloc | apply pw_below_drewN | apply below_drew1 | refine below_set ?_ GE528.out | refine below_set ?_ GE529.out) | exact HB.out)⟩

end Go.Proofs.Ytchhognpijobcaa.G

/- PReach -/
/-
  Reach: the program's steps and the reference's come to one place.
-/
namespace Go.Proofs.Ytchhognpijobcaa.G
open Go.RowKit Go.Proofs.YtchhognpijobcaaW.PrintWords Go.Proofs.YtchhognpijobcaaW.PrintLast Go.Proofs.YtchhognpijobcaaW.PrintMore
set_option linter.unusedVariables false
set_option linter.unusedSimpArgs false
theorem index_ev (xs : List ByteArray) (v : ByteArray) (h : xs.length ≤ 9223372036854775807) : Ev (fun k => slices_Index_string_string.f k xs v) (keyIx xs v) := by
  unfold slices_Index_string_string.f keyIx
  refine loop_find (g := fun k i => slices_Index_string_string.l0 k xs v xs.length i) xs.length (fun i : Nat => decide ((rdOf ByteArray.empty xs i).toList = v.toList)) (fun i => (i : Int)) (-1) ?_ ?_ ?_
  · intro i hi hok r hr
    refine Ev.step (fun k => by rw [slices_Index_string_string.l0]) ?_
    simp only [wsucc hi h]
    exact ev_if_pos (by omega) (ev_if_pos (by omega) (ev_if_pos (by omega) (ev_if_neg (fun e => of_decide_eq_false hok e.symm) hr)))
  · intro i hi hok
    exact Ev.step (fun k => by rw [slices_Index_string_string.l0]) (ev_if_pos (by omega) (ev_if_pos (by omega) (ev_if_pos (by omega) (ev_if_pos (of_decide_eq_true hok).symm (Ev.now _)))))
  · exact Ev.step (fun k => by rw [slices_Index_string_string.l0]) (ev_if_neg (by omega) (Ev.now _))
theorem step_ev {n : Nat} (x : IVal) (s : ByteArray) (hx : SmI n x) (hs : s.size ≤ 9223372036854775807) : Ev (fun k => impl_step.f k x.f0 x.f1 x.f2 x.f3 x.f4 s) (stepI x s) := by
  obtain ⟨m, rfl, _, h3, _, _⟩ := smI_parts hx
  unfold impl_step.f stepI
  by_cases c5 : x.f0 = 5
  · rw [if_pos c5]
    exact ev_if_pos c5 (Ev.bind (index_ev _ _ h3.1) (Ev.now _))
  · rw [if_neg c5]
    refine ev_if_neg c5 ?_
    by_cases c4 : x.f0 = 4
    · rw [if_pos c4]
      refine ev_if_pos c4 (Ev.bind (implNumber_ev s hs) ?_)
      unfold numR
      by_cases cn : numB s = true
      · rw [if_pos cn, if_pos cn]
        refine ev_if_pos rfl ?_
        by_cases cl : valI s s.size < (x.f4.length : Int)
        · exact ev_rw (ev_if_pos cl (Ev.now _)) (if_pos cl).symm
        · exact ev_rw (ev_if_neg cl (Ev.now _)) (if_neg cl).symm
      · rw [if_neg cn, if_neg cn, if_pos (show (-1 : Int) < (x.f4.length : Int) by omega)]
        exact ev_if_neg (by decide) (Ev.now _)
    · rw [if_neg c4]; exact ev_if_neg c4 (Ev.now _)
theorem l4Kid_ev {n : Nat} (x : IVal) (s : ByteArray) (hx : SmI n x) (hs : s.size ≤ 9223372036854775807) (hk : x.f0 = 5 → x.f3.length = x.f4.length) : Ev (fun k => spec_l4Kid.f k x.f0 x.f1 x.f2 x.f3 x.f4 s) (stepI x s) := by
  obtain ⟨m, rfl, _, h3, _, _⟩ := smI_parts hx
  unfold spec_l4Kid.f stepI
  by_cases c5 : x.f0 = 5
  · rw [if_pos c5]
    have hlen := hk c5
    refine ev_if_pos c5 ?_
    unfold keyIx
    refine loop_find (g := fun k i => spec_l4Kid.l0 k s i x.f0 x.f1 x.f2 x.f3 x.f4) x.f3.length (fun i : Nat => decide ((rdOf ByteArray.empty x.f3 i).toList = s.toList)) (fun i => (i : Int)) (-1) ?_ ?_ ?_
    · intro i hi hok r hr
      refine Ev.step (fun k => by rw [spec_l4Kid.l0]) ?_
      simp only [wsucc hi h3.1]
      exact ev_if_pos (by omega) (ev_if_pos (by omega) (ev_if_neg (fun e => of_decide_eq_false hok e) hr))
    · intro i hi hok
      exact Ev.step (fun k => by rw [spec_l4Kid.l0]) (ev_if_pos (by omega) (ev_if_pos (by omega) (ev_if_pos (of_decide_eq_true hok) (ev_if_pos (by omega) (Ev.now _)))))
    · exact Ev.step (fun k => by rw [spec_l4Kid.l0]) (ev_if_neg (by omega) (Ev.now _))
  · rw [if_neg c5]
    refine ev_if_neg c5 ?_
    by_cases c4 : x.f0 = 4
    · rw [if_pos c4]
      refine ev_if_pos c4 (Ev.bind (l4Number_ev s hs) ?_)
      by_cases cl : numR s < (x.f4.length : Int)
      · exact ev_rw (ev_if_pos cl (Ev.now _)) (if_pos cl).symm
      · exact ev_rw (ev_if_neg cl (Ev.now _)) (if_neg cl).symm
    · rw [if_neg c4]; exact ev_if_neg c4 (Ev.now _)
def zI : IVal := ⟨0, ⟨#[]⟩, 0, [], []⟩
theorem shape_keys {x : IVal} (h : shB x = true) (h5 : x.f0 = 5) : x.f3.length = x.f4.length := by
  unfold shB at h
  rw [if_neg (by omega), if_neg (by omega), if_neg (by omega), if_neg (by omega), if_pos h5] at h
  simp only [Bool.and_eq_true, beq_iff_eq] at h
  omega
theorem l4Reach_l0 (path : List ByteArray) (hp : wfStrs path) : ∀ (d i r n : Nat) (x : IVal), i + d = path.length → lookN r x ≠ 0 → SmI n x →
    Ev (fun k => spec_l4Reach.l0 k path i x.f0 x.f1 x.f2 x.f3 x.f4) (match reachV x (path.drop i) with | some y => (y.f0, y.f1, y.f2, y.f3, y.f4, true) | none => (0, ⟨#[]⟩, 0, [], [], false))
  | 0, i, r, n, x, hd, hl, hx => by
    rw [List.drop_of_length_le (by omega), reachV]
    exact Ev.step (fun k => by rw [spec_l4Reach.l0]) (ev_if_neg (by omega) (Ev.now _))
  | d + 1, i, r, n, x, hd, hl, hx => by
    have hi : i < path.length := by omega
    cases r with
    | zero => exact absurd rfl hl
    | succ r =>
      obtain ⟨hsh, hk⟩ := look_shape hl
      have hb := step_bounds hl path[i]
      obtain ⟨m, rfl, _, _, hf4, hkm⟩ := smI_parts hx
      rw [List.drop_eq_getElem_cons hi, reachV]
      refine Ev.step (fun k => by rw [spec_l4Reach.l0]) (ev_if_pos (by omega) (ev_if_pos (by omega) ?_))
      rw [rdS hi, wsucc hi hp.1]
      refine Ev.bind (l4Kid_ev x path[i] hx (hp.2 _ (List.getElem_mem hi)) (shape_keys hsh)) ?_
      by_cases c : 0 ≤ stepI x path[i]
      · obtain ⟨j, hj⟩ := Int.eq_ofNat_of_zero_le c
        have hjl : j < x.f4.length := by omega
        rw [if_pos c]
        have e : x.f4[(stepI x path[i]).toNat]? = some x.f4[j] := by rw [hj, Int.toNat_natCast, List.getElem?_eq_getElem hjl]
        rw [e, Option.bind_some]
        refine ev_if_neg (by omega) (ev_if_pos c (ev_if_pos (by omega) ?_))
        rw [hj, rdIV hjl]
        exact l4Reach_l0 path hp d (i + 1) r m x.f4[j] (by omega) (hk _ (List.getElem_mem hjl)) (hkm _ (List.getElem_mem hjl))
      · rw [if_neg c]
        exact ev_if_pos (by omega) (Ev.now _)
theorem sEta (x : IVal) : (⟨x.f0, x.f1, x.f2, x.f3, x.f4⟩ : IVal) = x := by cases x; rfl
theorem l4Copy_ev : ∀ (n : Nat) (x : IVal), SmI n x → Ev (fun k => spec_l4Copy.f k x.f0 x.f1 x.f2 x.f3 x.f4) (x.f0, x.f1, x.f2, x.f3, x.f4)
  | 0, x, h => by rw [SmI] at h; exact h.elim
  | n + 1, x, h => by
    rw [SmI] at h
    obtain ⟨_, _, h3, h4, hk⟩ := h
    have loop : ∀ (d i : Nat), i + d = x.f4.length → Ev (fun k => spec_l4Copy.l0 k i x.f0 x.f1 x.f2 x.f3 x.f4 x.f0 x.f1 x.f2 ([] ++ x.f3) (x.f4.take i)) (x.f0, x.f1, x.f2, x.f3, x.f4) := by
      intro d
      induction d with
      | zero =>
        intro i hd
        refine Ev.step (fun k => by rw [spec_l4Copy.l0]) (ev_if_neg (by omega) (ev_some ?_))
        rw [List.take_of_length_le (by omega), List.nil_append]
      | succ d ih =>
        intro i hd
        have hi : i < x.f4.length := by omega
        have ih := ih (i + 1) (by omega)
        rw [List.take_succ_eq_append_getElem hi] at ih
        refine Ev.step (fun k => by rw [spec_l4Copy.l0]) (ev_if_pos (by omega) (ev_if_pos (by omega) ?_))
        rw [rdIV hi, wsucc hi (by omega)]
        refine Ev.bind (l4Copy_ev n x.f4[i] (hk _ (List.getElem_mem hi))) (ev_if_pos (by rw [List.length_take]; omega) ?_)
        have e1 : (⟨x.f4[i].f0, x.f4[i].f1, x.f4[i].f2, x.f4[i].f3, x.f4[i].f4⟩ : IVal) = x.f4[i] := sEta _
        simp only [e1]
        exact ih
    have this := loop x.f4.length 0 (by omega)
    rw [List.take_zero] at this
    refine Ev.step (fun k => by rw [spec_l4Copy.f, Option.bind_some]) ?_
    exact ev_if_pos (by simp; omega) this
def reachR (x : IVal) (path : List ByteArray) : IVal × Bool := if valB x = true then (match reachV x path with | some y => (y, true) | none => (zI, false)) else (zI, false)
theorem zI_sm : SmI 1 zI := by
  rw [SmI]
  exact ⟨by decide, by decide, ⟨by decide, by intro y hy; cases hy⟩, by decide, by intro y hy; cases hy⟩
theorem specReach_ev {n : Nat} (x : IVal) (path : List ByteArray) (hx : SmI n x) (hp : wfStrs path) :
    Ev (fun k => spec_Reach.f k x.f0 x.f1 x.f2 x.f3 x.f4 path) ((reachR x path).1.f0, (reachR x path).1.f1, (reachR x path).1.f2, (reachR x path).1.f3, (reachR x path).1.f4, (reachR x path).2) := by
  unfold spec_Reach.f reachR
  refine Ev.bind (specValueOk_ev x hx) ?_
  by_cases c : valB x = true
  · rw [if_pos c]
    refine ev_if_pos c ?_
    have hl : lookN 6 x ≠ 0 := by unfold valB at c; have := of_decide_eq_true c; omega
    have hr := l4Reach_l0 path hp path.length 0 6 n x (by omega) hl hx
    rw [List.drop_zero] at hr
    unfold spec_l4Reach.f
    refine Ev.bind hr ?_
    cases he : reachV x path with
    | some y => exact Ev.bind (l4Copy_ev n y (reachV_sm path n x y hx he)) (Ev.now _)
    | none => exact Ev.bind (l4Copy_ev 1 zI zI_sm) (Ev.now _)
  · rw [if_neg c]; exact ev_if_neg c (Ev.now _)
end Go.Proofs.Ytchhognpijobcaa.G

/- PReachI -/
/-
  impl.Reach: what is reached, in rows of its own.
-/
namespace Go.Proofs.Ytchhognpijobcaa.G
open Go.RowKit Go.Proofs.YtchhognpijobcaaW.PrintWords Go.Proofs.YtchhognpijobcaaW.PrintLast Go.Proofs.YtchhognpijobcaaW.PrintMore
attribute [local go_sem] max2_int min2_int max_two min_two max_three min_three max_four min_four
set_option linter.unusedVariables false
set_option linter.unusedSimpArgs false
theorem zero_tV (n : Nat) (w : World) : (tV (n + 1)).T w zI [.int .i64 0, .string ⟨#[]⟩, .int .i64 0, .slice none 0 0, .slice none 0 0] [] :=
  tV_mk (x := zI) (Td.Row_nil _ _ _) (Td.Row_nil _ _ _)
theorem far5 {w : World} {g g' : Nat} {o : Obj} (h : w.heap[g]? = some o) (hg : g ≠ g') (a0 a1 a2 a3 a4 : Value) :
    (((((w.setCell ⟨g', 0, none⟩ a0).setCell ⟨g', 1, none⟩ a1).setCell ⟨g', 2, none⟩ a2).setCell ⟨g', 3, none⟩ a3).setCell ⟨g', 4, none⟩ a4).heap[g]? = some o := by
  rw [heap5 _ _ _ _ _ _ _ g hg, h]
theorem below5 {w w1 : World} {g : Nat} (h : Below w.heap.size w w1) (hg : w.heap.size ≤ g) (a0 a1 a2 a3 a4 : Value) :
    Below w.heap.size w (((((w1.setCell ⟨g, 0, none⟩ a0).setCell ⟨g, 1, none⟩ a1).setCell ⟨g, 2, none⟩ a2).setCell ⟨g, 3, none⟩ a3).setCell ⟨g, 4, none⟩ a4) :=
  below_set (below_set (below_set (below_set (below_set h hg) hg) hg) hg) hg
theorem reach_step {y : IVal} {path : List ByteArray} {i j : Nat} (hi : i < path.length) (hj : stepI y path[i] = j) (hjl : j < y.f4.length) : reachV y (path.drop i) = reachV y.f4[j] (path.drop (i + 1)) := by
  rw [List.drop_eq_getElem_cons hi, reachV, hj, if_pos (by omega), Int.toNat_natCast, List.getElem?_eq_getElem hjl, Option.bind_some]
theorem reach_stop {y : IVal} {path : List ByteArray} {i : Nat} (hi : i < path.length) (hj : stepI y path[i] < 0) : reachV y (path.drop i) = none := by
  rw [List.drop_eq_getElem_cons hi, reachV, if_neg (by omega)]
set_option maxHeartbeats 16000000 in
set_option maxRecDepth 100000 in
theorem implReach_calls (n : Nat) (x : IVal) (path : List ByteArray) (A3 : Option Addr) (c3 : Nat) (A4 : Option Addr) (c4 : Nat) (AP : Option Addr) (cP : Nat) (w : World) (g3 : Kd.C Kd.string w A3 x.f3.length x.f3) (l3 : x.f3.length ≤ c3) (g4 : Kd.C k30 w A4 x.f4.length x.f4) (l4 : x.f4.length ≤ c4) (gP : Kd.C Kd.string w AP path.length path) (lP : path.length ≤ cP) (hs : SmI n x) (hp : wfStrs path) :
  Calls Try.prog 35 #[.agg #[.int .i64 x.f0, .string x.f1, .int .i64 x.f2, .slice A3 x.f3.length c3, .slice A4 x.f4.length c4], .slice AP path.length cP] w fun e w' => ∃ (v3 v4 : Value) (fp : List Nat), e = .returned (.tuple #[.agg #[.int .i64 (reachR x path).1.f0, .string (reachR x path).1.f1, .int .i64 (reachR x path).1.f2, v3, v4], .bool (reachR x path).2]) ∧
    (tV n).T w' (reachR x path).1 [.int .i64 (reachR x path).1.f0, .string (reachR x path).1.f1, .int .i64 (reachR x path).1.f2, v3, v4] fp ∧ fp.Nodup ∧ (∀ k ∈ fp, w.heap.size ≤ k) ∧ Below w.heap.size w w' := by
  obtain ⟨m, rfl, _⟩ := smI_parts hs
  obtain ⟨W1, hW1⟩ : ∃ W1, (w.alloc (.cells #[.int .i64 x.f0, .string x.f1, .int .i64 x.f2, .slice A3 x.f3.length c3, .slice A4 x.f4.length c4] 30)).alloc (.cells #[.int .i64 0, .string ⟨#[]⟩, .int .i64 0, .slice none 0 0, .slice none 0 0] 30) = W1 := ⟨_, rfl⟩
  have hbA := below_alloc (below_alloc (Below.refl w.heap.size w) (.cells #[.int .i64 x.f0, .string x.f1, .int .i64 x.f2, .slice A3 x.f3.length c3, .slice A4 x.f4.length c4] 30)) (.cells #[.int .i64 0, .string ⟨#[]⟩, .int .i64 0, .slice none 0 0, .slice none 0 0] 30)
  obtain ⟨hb0, hb1, hsz⟩ := alloc2 w (.cells #[.int .i64 x.f0, .string x.f1, .int .i64 x.f2, .slice A3 x.f3.length c3, .slice A4 x.f4.length c4] 30) (.cells #[.int .i64 0, .string ⟨#[]⟩, .int .i64 0, .slice none 0 0, .slice none 0 0] 30)
  rw [hW1] at hb0 hb1 hsz hbA
  have HW1 := Lib.hid hW1
  have HBA := Lib.hid hbA
  have HB0 := Lib.hid hb0
  have HB1 := Lib.hid hb1
  have G3 := Lib.hid (Kd.C_below g3 hbA)
  have G4 := Lib.hid (Kd.C_below g4 hbA)
  have O3 := Lib.hid g3
  have O4 := Lib.hid g4
  have OP := Lib.hid gP
  have HS := Lib.hid hs
  have HP := Lib.hid hp
  have hp1 := hp.1
  obtain ⟨K1, k1⟩ := implValueOk_ev x hs
  clear g3 g4 gP hs hp hW1 hbA hsz hb0 hb1
  by_cases c : valB x = true
  · rw [c] at k1
    have E1 := Lib.hid (k1 K1 (Nat.le_refl _))
    have hl : ∃ r, lookN r x ≠ 0 := ⟨6, by unfold valB at c; have := of_decide_eq_true c; omega⟩
    have HL := Lib.hid hl
    have HC := Lib.hid c
    clear k1 hl c
    go_enter Try.func35, Try.ntmps35
    go_wp2_with fail
    rw [HW1.out]
    refine (impl_ValueOk.calls K1 x.f0 x.f1 x.f2 A3 c3 x.f3 A4 c4 x.f4 true W1 G3.out l3 G4.out l4 E1.out).mono ?_
    rintro e w2 ⟨rfl, hb2⟩
    have Z0 := Lib.hid ((hb2.block _ (blk_lt HB0.out)).trans HB0.out)
    have Z1 := Lib.hid ((hb2.block _ (blk_lt HB1.out)).trans HB1.out)
    have B2 := Lib.hid (below_step HBA.out hb2)
    clear hb2 HBA HB0 HB1 G3 G4 HW1 E1
    go_wp2
    go_loopw [15] (fun vi wr => ∃ (i : Nat) (y : IVal) (A5 : Option Addr) (c5 : Nat) (A6 : Option Addr) (c6 : Nat), i ≤ path.length ∧ vi = .int .i64 i ∧ Hid (reachV x path = reachV y (path.drop i)) ∧ Hid (∃ r, lookN r y ≠ 0) ∧ Hid (SmI (m + 1) y) ∧ Hid (y.f3.length ≤ c5 ∧ y.f4.length ≤ c6 ∧ Kd.C Kd.string w A5 y.f3.length y.f3 ∧ Kd.C k30 w A6 y.f4.length y.f4) ∧ Hid (wr.heap[w.heap.size]? = some (.cells #[.int .i64 y.f0, .string y.f1, .int .i64 y.f2, .slice A5 y.f3.length c5, .slice A6 y.f4.length c6] 30 (0, 0))) ∧ Hid (wr.heap[w.heap.size + 1]? = some (.cells #[.int .i64 0, .string ⟨#[]⟩, .int .i64 0, .slice none 0 0, .slice none 0 0] 30 (0, 0))) ∧ Hid (Below w.heap.size w wr)) (fun vi _ => path.length - (intOf vi).toNat)
    case atStart => exact ⟨0, x, A3, c3, A4, c4, by omega, rfl, Lib.hid (by rw [List.drop_zero]), HL, HS, Lib.hid ⟨l3, l4, O3.out, O4.out⟩, Z0, Z1, B2⟩
    case round =>
      clear Z0 Z1 B2 O3 O4 l3 l4
      obtain ⟨i, y, A5, c5, A6, c6, hi, rfl, HRV, HLK, HSM, HCC, Z0, Z1, HB⟩ := hrel
      by_cases hil : i < path.length
      · obtain ⟨adP, eP, hxP⟩ := Kd.at_string OP.out (i : Int) (by omega) (by omega)
        cases eP
        have hx := (HB.out.cell (World.block_lt_of_cell? w _ hxP)).trans hxP
        rw [rdS hil, Int.toNat_natCast] at hx
        obtain ⟨d0, d1, d2, d3, d4⟩ := cells5 Z0.out
        obtain ⟨l5, l6, o5, o6⟩ := HCC.out
        have O5 := Lib.hid (Kd.C_below o5 HB.out)
        have O6 := Lib.hid (Kd.C_below o6 HB.out)
        have O6w := Lib.hid o6
        obtain ⟨K2, k2⟩ := step_ev y path[i] HSM.out (HP.out.2 _ (List.getElem_mem hil))
        have hbd : -1 ≤ stepI y path[i] ∧ stepI y path[i] < y.f4.length ∧ ∀ z ∈ y.f4, ∃ r, lookN r z ≠ 0 := by
          obtain ⟨r, hr⟩ := HLK.out
          cases r with
          | zero => exact absurd rfl hr
          | succ r =>
            have := step_bounds hr path[i]
            exact ⟨this.1, this.2, fun z hz => ⟨r, (look_shape hr).2 z hz⟩⟩
        obtain ⟨hb1, hb2, hb3⟩ := hbd
        have HLZ := Lib.hid hb3
        clear hxP o5 o6 HCC hb3
        by_cases cs : 0 ≤ stepI y path[i]
        · obtain ⟨j, hj⟩ := Int.eq_ofNat_of_zero_le cs
          have hjl : j < y.f4.length := by omega
          rw [hj] at k2
          have E2 := Lib.hid (k2 K2 (Nat.le_refl _))
          have HJ := Lib.hid hj
          obtain ⟨ad, cs', rfl, hcs, hK, hcell⟩ := Kd.C_get O6w.out y.f4[j] (j : Int) (by omega) (by omega)
          simp only [Int.toNat_natCast, getD_at hjl] at hK hcell
          obtain ⟨A7, c7, A8, c8, rfl, l7, g7, l8, g8⟩ := k30_open hK
          have HCK := Lib.hid (And.intro l7 (And.intro l8 (And.intro g7 g8)))
          have HCELL := Lib.hid hcell
          clear hcs hK hcell l7 g7 l8 g8 hb1 hb2 cs hj k2 O6w
          go_wp2_with fail
          refine (impl_step.calls K2 y.f0 y.f1 y.f2 A5 c5 y.f3 (some ad) c6 y.f4 path[i] (j : Int) _ O5.out l5 O6.out l6 E2.out).mono ?_
          rintro e w3 ⟨rfl, hb3⟩
          have z0 := (hb3.block _ (blk_lt Z0.out)).trans Z0.out
          have z1 := (hb3.block _ (blk_lt Z1.out)).trans Z1.out
          have b3 := below_step HB.out hb3
          clear d0 d1 d2 d3 d4 hx
          obtain ⟨d0, d1, d2, d3, d4⟩ := cells5 z0
          have f0 := blk_frozen z0 0
          have f1 := blk_frozen z0 1
          have f2 := blk_frozen z0 2
          have f3 := blk_frozen z0 3
          have f4 := blk_frozen z0 4
          have q0 := pw_cell_below b3 (HCELL.out 0 _ rfl)
          have q1 := pw_cell_below b3 (HCELL.out 1 _ rfl)
          have q2 := pw_cell_below b3 (HCELL.out 2 _ rfl)
          have q3 := pw_cell_below b3 (HCELL.out 3 _ rfl)
          have q4 := pw_cell_below b3 (HCELL.out 4 _ rfl)
          rw [show k30.sz = 5 from rfl] at q0 q1 q2 q3 q4
          simp only [Nat.add_zero] at q0
          rw [add_field _ _ 1 (by omega)] at q1
          rw [add_field _ _ 2 (by omega)] at q2
          rw [add_field _ _ 3 (by omega)] at q3
          rw [add_field _ _ 4 (by omega)] at q4
          have N0 := Lib.hid (blk5 z0 (.int .i64 y.f4[j].f0) (.string y.f4[j].f1) (.int .i64 y.f4[j].f2) (.slice A7 y.f4[j].f3.length c7) (.slice A8 y.f4[j].f4.length c8))
          have N1 := Lib.hid (far5 z1 (g' := w.heap.size) (by omega) (.int .i64 y.f4[j].f0) (.string y.f4[j].f1) (.int .i64 y.f4[j].f2) (.slice A7 y.f4[j].f3.length c7) (.slice A8 y.f4[j].f4.length c8))
          have N2 := Lib.hid (below5 b3 (Nat.le_refl _) (.int .i64 y.f4[j].f0) (.string y.f4[j].f1) (.int .i64 y.f4[j].f2) (.slice A7 y.f4[j].f3.length c7) (.slice A8 y.f4[j].f4.length c8))
          clear z0 z1 b3 hb3 Z0 Z1 HB O5 O6 E2 HCELL
          go_wp2
          go_roundw
          case rel =>
            refine ⟨i + 1, y.f4[j], A7, c7, A8, c8, by omega, by go_num, Lib.hid ?_, Lib.hid (HLZ.out _ (List.getElem_mem hjl)), Lib.hid ?_, HCK, N0, N1, N2⟩
            · rw [HRV.out, reach_step hil HJ.out hjl]
            · obtain ⟨m', hm, _, _, _, hk⟩ := smI_parts HSM.out
              obtain rfl : m = m' := by omega
              exact smI_up (hk _ (List.getElem_mem hjl))
          case measure => simp [intOf]; omega
        · have hneg : stepI y path[i] = -1 := by omega
          rw [hneg] at k2
          have E2 := Lib.hid (k2 K2 (Nat.le_refl _))
          have hR : reachR x path = (zI, false) := by
            unfold reachR
            rw [if_pos HC.out, HRV.out, reach_stop hil (by omega)]
          have HR := Lib.hid hR
          clear hb1 hb2 cs k2 O6w hneg hR
          go_wp2_with fail
          refine (impl_step.calls K2 y.f0 y.f1 y.f2 A5 c5 y.f3 A6 c6 y.f4 path[i] (-1) _ O5.out l5 O6.out l6 E2.out).mono ?_
          rintro e w3 ⟨rfl, hb3⟩
          have z1 := (hb3.block _ (blk_lt Z1.out)).trans Z1.out
          have f0 := blk_frozen z1 0
          have f1 := blk_frozen z1 1
          have f2 := blk_frozen z1 2
          have f3 := blk_frozen z1 3
          have f4 := blk_frozen z1 4
          clear d0 d1 d2 d3 d4 hx
          obtain ⟨d0, d1, d2, d3, d4⟩ := cells5 z1
          have N1 := Lib.hid (blk5 z1 (.int .i64 0) (.string ⟨#[]⟩) (.int .i64 0) (.slice none 0 0) (.slice none 0 0))
          have N2 := Lib.hid (below5 (below_step HB.out hb3) (Nat.le_succ _) (.int .i64 0) (.string ⟨#[]⟩) (.int .i64 0) (.slice none 0 0) (.slice none 0 0))
          clear z1 hb3 Z0 Z1 HB O5 O6 E2
          go_wp2
          refine bodyPost_ret (results_ct rfl _ _ (w.heap.size + 1) 30 #[.int .i64 0, .string ⟨#[]⟩, .int .i64 0, .slice none 0 0, .slice none 0 0] (0, 0) _ rfl N1.out Try.underlying30 rfl (by kernel_rfl)) rfl ?_
          rw [HR.out]
          exact ⟨_, _, [], rfl, zero_tV _ _, by simp, by simp, N2.out⟩
      · obtain rfl : i = path.length := by omega
        have hR : reachR x path = (y, true) := by
          unfold reachR
          rw [if_pos HC.out, HRV.out, List.drop_length, reachV]
        have HR := Lib.hid hR
        obtain ⟨d0, d1, d2, d3, d4⟩ := cells5 Z0.out
        obtain ⟨l5, l6, o5, o6⟩ := HCC.out
        have HCV := Lib.hid (cpV_all (m + 1) y A5 c5 A6 c6 wr (Kd.C_below o5 HB.out) l5 (Kd.C_below o6 HB.out) l6 HSM.out)
        clear hR o5 o6 HCC
        go_wp2_with fail
        (with_reducible refine HCV.out.mono ?_)
        rintro e w5 ⟨u3, u4, fk, rfl, hT, hkn, hkb, hc5⟩
        obtain ⟨u3', u4', g3, g4, hu, hfk, hr3, hr4⟩ := tV_open' hT
        obtain ⟨rfl, rfl⟩ := hu
        obtain ⟨B5, e5, rfl⟩ := Td.Row_slice hr3
        obtain ⟨B6, e6, rfl⟩ := Td.Row_slice hr4
        have HF := Lib.hid hfk
        have HKN := Lib.hid hkn
        have HKB := Lib.hid hkb
        have R3 := Lib.hid hr3
        have R4 := Lib.hid hr4
        have z1 := (hc5.block _ (blk_lt Z1.out)).trans Z1.out
        have hwr : w.heap.size + 1 < wr.heap.size := blk_lt Z1.out
        have f0 := blk_frozen z1 0
        have f1 := blk_frozen z1 1
        have f2 := blk_frozen z1 2
        have f3 := blk_frozen z1 3
        have f4 := blk_frozen z1 4
        clear d0 d1 d2 d3 d4
        obtain ⟨d0, d1, d2, d3, d4⟩ := cells5 z1
        have N1 := Lib.hid (blk5 z1 (.int .i64 y.f0) (.string y.f1) (.int .i64 y.f2) (.slice B5 y.f3.length e5) (.slice B6 y.f4.length e6))
        have N2 := Lib.hid (below5 (below_step HB.out hc5) (Nat.le_succ _) (.int .i64 y.f0) (.string y.f1) (.int .i64 y.f2) (.slice B5 y.f3.length e5) (.slice B6 y.f4.length e6))
        have HWR := Lib.hid hwr
        clear z1 hT hkn hkb hc5 hr3 hr4 HCV Z0 Z1 HB hfk hwr
        go_wp2
        refine bodyPost_ret (results_ct rfl _ _ (w.heap.size + 1) 30 #[.int .i64 y.f0, .string y.f1, .int .i64 y.f2, .slice B5 y.f3.length e5, .slice B6 y.f4.length e6] (0, 0) _ rfl N1.out Try.underlying30 rfl (by kernel_rfl)) rfl ?_
        rw [HR.out]
        have hf := HF.out
        have hkb := HKB.out
        have hwr := HWR.out
        subst hf
        refine ⟨_, _, g3 ++ g4, rfl, tV_mk (x := y) (Td.Row_move R3.out (fun k hk => heap5 _ _ _ _ _ _ _ k (by have := hkb k (List.mem_append_left _ hk); omega))) (Td.Row_move R4.out (fun k hk => heap5 _ _ _ _ _ _ _ k (by have := hkb k (List.mem_append_right _ hk); omega))), HKN.out, fun k hk => by have := hkb k hk; omega, N2.out⟩
  · have c : valB x = false := by simpa using c
    rw [c] at k1
    have E1 := Lib.hid (k1 K1 (Nat.le_refl _))
    have hR : reachR x path = (zI, false) := by
      unfold reachR
      rw [if_neg (by rw [c]; decide)]
    have HR := Lib.hid hR
    clear k1 c hR
    go_enter Try.func35, Try.ntmps35
    go_wp2_with fail
    rw [HW1.out]
    refine (impl_ValueOk.calls K1 x.f0 x.f1 x.f2 A3 c3 x.f3 A4 c4 x.f4 false W1 G3.out l3 G4.out l4 E1.out).mono ?_
    rintro e w2 ⟨rfl, hb2⟩
    have z1 := (hb2.block _ (blk_lt HB1.out)).trans HB1.out
    have f0 := blk_frozen z1 0
    have f1 := blk_frozen z1 1
    have f2 := blk_frozen z1 2
    have f3 := blk_frozen z1 3
    have f4 := blk_frozen z1 4
    obtain ⟨d0, d1, d2, d3, d4⟩ := cells5 z1
    have N1 := Lib.hid (blk5 z1 (.int .i64 0) (.string ⟨#[]⟩) (.int .i64 0) (.slice none 0 0) (.slice none 0 0))
    have N2 := Lib.hid (below5 (below_step HBA.out hb2) (Nat.le_succ _) (.int .i64 0) (.string ⟨#[]⟩) (.int .i64 0) (.slice none 0 0) (.slice none 0 0))
    clear z1 hb2 HBA HB0 HB1 G3 G4 HW1 E1
    go_wp2
    refine bodyPost_ret (results_ct rfl _ _ (w.heap.size + 1) 30 #[.int .i64 0, .string ⟨#[]⟩, .int .i64 0, .slice none 0 0, .slice none 0 0] (0, 0) _ rfl N1.out Try.underlying30 rfl (by kernel_rfl)) rfl ?_
    rw [HR.out]
    exact ⟨_, _, [], rfl, zero_tV _ _, by simp, by simp, N2.out⟩
end Go.Proofs.Ytchhognpijobcaa.G

/- G75 -/
-- Laid by wip/g/gprint.py out of the translation, by the kit's print program. Lean checks it.
namespace Go.Proofs.Ytchhognpijobcaa.G
open Go.RowKit Go.Proofs.YtchhognpijobcaaW.PrintWords Go.Proofs.YtchhognpijobcaaW.PrintLast Go.Proofs.YtchhognpijobcaaW.PrintMore
attribute [local go_sem] max2_int min2_int max_two min_two max_three min_three max_four min_four   -- for this text's walks alone
set_option linter.unusedVariables false
set_option linter.unusedSimpArgs false

/-! ### laws_heldStringS: function 75 -/
def laws_heldStringS.l0 : Nat → List ByteArray → Int → Int → Option (Int)
  | 0, _, _, _ => none
  | k + 1, x0, x1, x5 => if x5 < (x0.length : Int) then (if 0 ≤ x5 then ((laws_markText.f k x1).bind fun t602 => (if (rdOf ByteArray.empty x0 x5).toList = t602.toList then (laws_heldStringS.l0 k x0 (wrap64 (x1 + 1)) (wrap64 (x5 + 1))) else (some (-1)))) else (none)) else (some x1)
def laws_heldStringS.f (k : Nat) (l0 : List ByteArray) (a1 : Int) : Option (Int) := laws_heldStringS.l0 k l0 a1 0
set_option maxHeartbeats 8000000 in
set_option maxRecDepth 100000 in
theorem laws_heldStringS.calls (k : Nat) (A0 : Option Addr) (c0 : Nat) (l0 : List ByteArray) (a1 : Int) (r : Int) (w : World) (hr0 : Kd.C Kd.string w A0 l0.length l0) (hc0 : l0.length ≤ c0) (h : laws_heldStringS.f k l0 a1 = some r) :
    Calls Try.prog 75 #[.slice A0 l0.length c0, .int .i64 a1] w fun e w' => e = .returned (.int .i64 r) ∧ Below w.heap.size w w' := by
  have HR0 := Aside0.mk hr0
  have HC0 := Aside0.mk hc0
  clear hr0 hc0
  have HB := Aside0.mk (Below.refl w.heap.size w)
  have H : (laws_heldStringS.l0 k l0 a1 0) = some r := h
  clear h
  have H' := Aside0.mk H
  clear H
  go_enter Try.func75, Try.ntmps75
  go_wp2
  go_loopg [1, 5] k (fun kq v1 v5 w' => ∃ (x1_1 : Int) (x5_1 : Int), v1 = .int .i64 x1_1 ∧ v5 = .int .i64 x5_1 ∧ Aside0 (laws_heldStringS.l0 kq l0 x1_1 x5_1 = some r) ∧ Aside0 (kq ≤ k) ∧ Aside0 (Below w.heap.size w w'))
  case atStart => exact ⟨(a1), (0), (by first | rfl | (simp; done) | (simp [*]; done)), (by first | rfl | (simp; done) | (simp [*]; done)), H', ⟨Nat.le_refl _⟩, ⟨by repeat (first | (with_reducible first | exact HB.out | apply below_alloc | apply pw_below_drewN | apply below_drew1) | exact HB.out)⟩⟩
  case round =>
    clear H'
    try clear p2
    obtain ⟨x1_1, x5_1, rfl, rfl, HA, HK1, HB⟩ := hrel
    cases gk with
    | zero => exact absurd HA.out (by simp [laws_heldStringS.l0])
    | succ k1 =>
      have H := HA.out
      clear HA
      simp only [laws_heldStringS.l0] at H
      by_cases c3 : x5_1 < (l0.length : Int)
      · rw [if_pos c3] at H
        have c3b0 : decide (x5_1 < (l0.length : Int)) = true := decide_eq_true c3
        clear c3
        by_cases c4 : 0 ≤ x5_1
        · rw [if_pos c4] at H
          have c4b0 : decide (0 ≤ x5_1) = true := decide_eq_true c4
          clear c4
          replace H := Option.bind_eq_some_iff.mp H
          obtain ⟨t602, A50, H⟩ := H
          replace H : (if (rdOf ByteArray.empty l0 x5_1).toList = t602.toList then (laws_heldStringS.l0 k1 l0 (wrap64 (x1_1 + 1)) (wrap64 (x5_1 + 1))) else (some (-1))) = some r := H
          have A5 := Aside0.mk A50
          clear A50
          by_cases c6 : (rdOf ByteArray.empty l0 x5_1).toList = t602.toList
          · rw [if_pos c6] at H
            have c6b0 : ((rdOf ByteArray.empty l0 x5_1).toList == t602.toList) = true := beq_iff_eq.mpr c6
            have c6b1 : ((rdOf ByteArray.empty l0 x5_1).toList != t602.toList) = false := bne_eq_false_iff_eq.mpr c6
            clear c6
            have H' := Aside0.mk H
            clear H
            try go_wp2
            have n0_ := Aside0.mk (below_drew1 HB.out)
            clear HB
            have HB := n0_
            clear n0_
            have p601 : 0 ≤ (x5_1 : Int) := of_decide_eq_true (by first | (with_reducible assumption) | assumption)
            have q601 : x5_1 < (l0.length : Int) := of_decide_eq_true (by first | (with_reducible assumption) | assumption)
            obtain ⟨ad601, e601, hx601_0⟩ := Kd.at_string HR0.out x5_1 p601 q601
            have hw601_0 := hx601_0
            cases e601
            replace hx601_0 := (HB.out.cell (World.block_lt_of_cell? w _ hx601_0)).trans hx601_0
            replace p601 := eq_true p601
            replace q601 := eq_true q601
            refine start_ (n := 7) (S := fun w' => w'.cell? (ad601.add (x5_1).toNat) = some (.string (rdOf ByteArray.empty l0 x5_1))) (ds := []) #[false, false, false, false, false, false, false] (by kernel_rfl) rfl rfl (((HB.out.cell (World.block_lt_of_cell? w _ hw601_0)).trans hw601_0)) (fun hHeld => ?_)
            generalize wr.drew = w7 at HB hx601_0 hHeld ⊢
            refine pure_ (i := 0) (N := some 12) (v := ?_) (a' := ?_) #[true, false, false, false, false, false, false] rfl rfl (by kernel_rfl) (fun _ _ _ h => h) (Or.inl ⟨by rfl, ?_⟩) ?_ ?_
            rotate_left
            · intro w'
              go_simp
              with_reducible rfl
            rotate_left
            · simp only [Act.put, List.setIfInBounds_toArray, List.set_cons_zero, List.set_cons_succ, i64_w, i32_w]
              rfl
            refine pure_ (i := 1) (N := some 13) (v := ?_) (a' := ?_) #[true, true, false, false, false, false, false] rfl rfl (by kernel_rfl) (fun _ _ _ h => h) (Or.inl ⟨by rfl, ?_⟩) ?_ ?_
            rotate_left
            · intro w'
              go_simp
              with_reducible rfl
            rotate_left
            · simp only [Act.put, List.setIfInBounds_toArray, List.set_cons_zero, List.set_cons_succ, i64_w, i32_w]
              rfl
            refine pure_ (i := 2) (N := some 14) (v := ?_) (a' := ?_) #[true, true, true, false, false, false, false] rfl rfl (by kernel_rfl) (fun _ _ _ h => h) (Or.inl ⟨by rfl, ?_⟩) ?_ ?_
            rotate_left
            · intro w'
              go_simp
              with_reducible rfl
            rotate_left
            · simp only [Act.put, List.setIfInBounds_toArray, List.set_cons_zero, List.set_cons_succ, i64_w, i32_w]
              rfl
            refine pure_ (i := 4) (N := some 16) (v := ?_) (a' := ?_) #[true, true, true, false, true, false, false] rfl rfl (by kernel_rfl) (fun _ _ _ h => h) (Or.inl ⟨by rfl, ?_⟩) ?_ ?_
            rotate_left
            · intro w'
              go_simp
              with_reducible rfl
            rotate_left
            · simp only [Act.put, List.setIfInBounds_toArray, List.set_cons_zero, List.set_cons_succ, i64_w, i32_w]
              rfl
            refine take_ (i := 3) (N := some 15) (v := ?_) (a' := ?_) #[true, true, true, true, true, false, false] rfl rfl (by kernel_rfl) (fun _ _ _ h => h) (Or.inl ⟨by rfl, ?_⟩) hHeld ?_ ?_
            rotate_left
            · intro w' s0
              go_simp
              with_reducible rfl
            rotate_left
            · simp only [Act.put, List.setIfInBounds_toArray, List.set_cons_zero, List.set_cons_succ, i64_w, i32_w]
              rfl
            refine one_ (i := 5) (N := some 17) #[true, true, true, true, true, true, false] rfl rfl (by kernel_rfl) (by decide) (fun K hK => ?_)
            refine goes_ Try.func74 (by kernel_rfl) rfl #[.int .i64 x1_1] (by rfl) rfl rfl (by (try simp only [List.map_toArray, List.map_cons, List.map_nil]); first | done | rfl | (simp only [List.length_drop, List.length_take]; rfl)) ?_
            with_reducible refine (laws_markText.calls k1 x1_1 t602 _ A5.out).mono ?_
            rintro e w8 ⟨rfl, hb⟩
            refine ⟨_, rfl, ?_⟩
            have n0_ := Aside0.mk (below_step (by repeat (first | (with_reducible first | exact HB.out | apply below_alloc | apply pw_below_drewN | apply below_drew1) | exact HB.out)) hb)
            clear HB
            have HB := n0_
            clear n0_
            (try clear hb)
            (try clear hb2)
            (try clear hk)
            (try clear hi)
            refine hK.out _ _ (((HB.out.cell (World.block_lt_of_cell? w _ hw601_0)).trans hw601_0)) (fun hHeld => ?_)
            clear hK K
            refine norm_ (a' := ?_) ?_ ?_
            rotate_left
            · show Act.put _ (some 17) _ = _
              simp only [Act.put, List.setIfInBounds_toArray, List.set_cons_zero, List.set_cons_succ, i64_w, i32_w]
              rfl
            refine pure_ (i := 6) (N := some 18) (v := ?_) (a' := ?_) #[true, true, true, true, true, true, true] rfl rfl (by kernel_rfl) (fun _ _ _ h => h) (Or.inl ⟨by rfl, ?_⟩) ?_ ?_
            rotate_left
            · intro w'
              go_simp
              with_reducible rfl
            rotate_left
            · simp only [Act.put, List.setIfInBounds_toArray, List.set_cons_zero, List.set_cons_succ, i64_w, i32_w]
              rfl
            refine done_ (by kernel_rfl) ?_
            try go_wp2
            go_roundg k1
            case measure => have := HK1.out; omega
            case rel => exact ⟨(wrap64 (x1_1 + 1)), (wrap64 (x5_1 + 1)), (by first | rfl | (simp; done) | (simp [*]; done)), (by first | rfl | (simp; done) | (simp [*]; done)), H', ⟨by have := HK1.out; omega⟩, ⟨by repeat (first | (with_reducible first | exact HB.out | apply below_alloc | apply pw_below_drewN | apply below_drew1) | exact HB.out)⟩⟩
          · rw [if_neg c6] at H
            have c6b0 : ((rdOf ByteArray.empty l0 x5_1).toList == t602.toList) = false := beq_eq_false_iff_ne.mpr c6
            have c6b1 : ((rdOf ByteArray.empty l0 x5_1).toList != t602.toList) = true := bne_iff_ne.mpr c6
            obtain rfl := Option.some.inj H
            try go_wp2
            have n0_ := Aside0.mk (below_drew1 HB.out)
            clear HB
            have HB := n0_
            clear n0_
            have p601 : 0 ≤ (x5_1 : Int) := of_decide_eq_true (by first | (with_reducible assumption) | assumption)
            have q601 : x5_1 < (l0.length : Int) := of_decide_eq_true (by first | (with_reducible assumption) | assumption)
            obtain ⟨ad601, e601, hx601_0⟩ := Kd.at_string HR0.out x5_1 p601 q601
            have hw601_0 := hx601_0
            cases e601
            replace hx601_0 := (HB.out.cell (World.block_lt_of_cell? w _ hx601_0)).trans hx601_0
            replace p601 := eq_true p601
            replace q601 := eq_true q601
            refine start_ (n := 7) (S := fun w' => w'.cell? (ad601.add (x5_1).toNat) = some (.string (rdOf ByteArray.empty l0 x5_1))) (ds := []) #[false, false, false, false, false, false, false] (by kernel_rfl) rfl rfl (((HB.out.cell (World.block_lt_of_cell? w _ hw601_0)).trans hw601_0)) (fun hHeld => ?_)
            generalize wr.drew = w9 at HB hx601_0 hHeld ⊢
            refine pure_ (i := 0) (N := some 12) (v := ?_) (a' := ?_) #[true, false, false, false, false, false, false] rfl rfl (by kernel_rfl) (fun _ _ _ h => h) (Or.inl ⟨by rfl, ?_⟩) ?_ ?_
            rotate_left
            · intro w'
              go_simp
              with_reducible rfl
            rotate_left
            · simp only [Act.put, List.setIfInBounds_toArray, List.set_cons_zero, List.set_cons_succ, i64_w, i32_w]
              rfl
            refine pure_ (i := 1) (N := some 13) (v := ?_) (a' := ?_) #[true, true, false, false, false, false, false] rfl rfl (by kernel_rfl) (fun _ _ _ h => h) (Or.inl ⟨by rfl, ?_⟩) ?_ ?_
            rotate_left
            · intro w'
              go_simp
              with_reducible rfl
            rotate_left
            · simp only [Act.put, List.setIfInBounds_toArray, List.set_cons_zero, List.set_cons_succ, i64_w, i32_w]
              rfl
            refine pure_ (i := 2) (N := some 14) (v := ?_) (a' := ?_) #[true, true, true, false, false, false, false] rfl rfl (by kernel_rfl) (fun _ _ _ h => h) (Or.inl ⟨by rfl, ?_⟩) ?_ ?_
            rotate_left
            · intro w'
              go_simp
              with_reducible rfl
            rotate_left
            · simp only [Act.put, List.setIfInBounds_toArray, List.set_cons_zero, List.set_cons_succ, i64_w, i32_w]
              rfl
            refine pure_ (i := 4) (N := some 16) (v := ?_) (a' := ?_) #[true, true, true, false, true, false, false] rfl rfl (by kernel_rfl) (fun _ _ _ h => h) (Or.inl ⟨by rfl, ?_⟩) ?_ ?_
            rotate_left
            · intro w'
              go_simp
              with_reducible rfl
            rotate_left
            · simp only [Act.put, List.setIfInBounds_toArray, List.set_cons_zero, List.set_cons_succ, i64_w, i32_w]
              rfl
            refine take_ (i := 3) (N := some 15) (v := ?_) (a' := ?_) #[true, true, true, true, true, false, false] rfl rfl (by kernel_rfl) (fun _ _ _ h => h) (Or.inl ⟨by rfl, ?_⟩) hHeld ?_ ?_
            rotate_left
            · intro w' s0
              go_simp
              with_reducible rfl
            rotate_left
            · simp only [Act.put, List.setIfInBounds_toArray, List.set_cons_zero, List.set_cons_succ, i64_w, i32_w]
              rfl
            refine one_ (i := 5) (N := some 17) #[true, true, true, true, true, true, false] rfl rfl (by kernel_rfl) (by decide) (fun K hK => ?_)
            refine goes_ Try.func74 (by kernel_rfl) rfl #[.int .i64 x1_1] (by rfl) rfl rfl (by (try simp only [List.map_toArray, List.map_cons, List.map_nil]); first | done | rfl | (simp only [List.length_drop, List.length_take]; rfl)) ?_
            with_reducible refine (laws_markText.calls k1 x1_1 t602 _ A5.out).mono ?_
            rintro e w10 ⟨rfl, hb⟩
            refine ⟨_, rfl, ?_⟩
            have n0_ := Aside0.mk (below_step (by repeat (first | (with_reducible first | exact HB.out | apply below_alloc | apply pw_below_drewN | apply below_drew1) | exact HB.out)) hb)
            clear HB
            have HB := n0_
            clear n0_
            (try clear hb)
            (try clear hb2)
            (try clear hk)
            (try clear hi)
            refine hK.out _ _ (((HB.out.cell (World.block_lt_of_cell? w _ hw601_0)).trans hw601_0)) (fun hHeld => ?_)
            clear hK K
            refine norm_ (a' := ?_) ?_ ?_
            rotate_left
            · show Act.put _ (some 17) _ = _
              simp only [Act.put, List.setIfInBounds_toArray, List.set_cons_zero, List.set_cons_succ, i64_w, i32_w]
              rfl
            refine pure_ (i := 6) (N := some 18) (v := ?_) (a' := ?_) #[true, true, true, true, true, true, true] rfl rfl (by kernel_rfl) (fun _ _ _ h => h) (Or.inl ⟨by rfl, ?_⟩) ?_ ?_
            rotate_left
            · intro w'
              go_simp
              with_reducible rfl
            rotate_left
            · simp only [Act.put, List.setIfInBounds_toArray, List.set_cons_zero, List.set_cons_succ, i64_w, i32_w]
              rfl
            refine done_ (by kernel_rfl) ?_
            try go_wp2
            go_ret
            exact ⟨by first | rfl | (simp [errW_none, errW_some] <;> rfl) | (simp [*, errW_none, errW_some] <;> rfl), by repeat (first | (with_reducible first | exact HB.out | apply below_alloc | apply pw_below_drewN | apply below_drew1) | exact HB.out)⟩
        · rw [if_neg c4] at H
          exact absurd H (by simp)
      · rw [if_neg c3] at H
        have c3b0 : decide (x5_1 < (l0.length : Int)) = false := decide_eq_false c3
        clear c3
        obtain rfl := Option.some.inj H
        go_wp2
        go_ret
        exact ⟨by first | rfl | (simp [errW_none, errW_some] <;> rfl) | (simp [*, errW_none, errW_some] <;> rfl), by repeat (first | (with_reducible first | exact HB.out | apply below_alloc | apply pw_below_drewN | apply below_drew1) | exact HB.out)⟩

end Go.Proofs.Ytchhognpijobcaa.G

/- PHeldS -/
/-
  Marks are found again: lists of texts.
-/
namespace Go.Proofs.Ytchhognpijobcaa.G
open Go.RowKit Go.Proofs.YtchhognpijobcaaW.PrintWords Go.Proofs.YtchhognpijobcaaW.PrintLast Go.Proofs.YtchhognpijobcaaW.PrintMore
set_option linter.unusedVariables false
set_option linter.unusedSimpArgs false
theorem mkL_get {α : Type} (f : α → Int → α × Int) : ∀ (xs : List α) (a : Int) (i : Nat) (h : i < xs.length) (h' : i < (mkL f xs a).1.length), (mkL f xs a).1[i] = (f xs[i] (mkL f (xs.take i) a).2).1
  | x :: xs, a, 0, h, h' => by simp [mkL]
  | x :: xs, a, i + 1, h, h' => by
    simp only [mkL, List.getElem_cons_succ, List.take_succ_cons]
    exact mkL_get f xs _ i (by simpa using h) _
theorem mkL_next {α : Type} (f : α → Int → α × Int) (xs : List α) (a : Int) (i : Nat) (h : i < xs.length) : (mkL f (xs.take (i + 1)) a).2 = (f xs[i] (mkL f (xs.take i) a).2).2 := by
  rw [List.take_succ_eq_append_getElem h, mkL_snoc]
theorem heldStrs_l0 (xs : List ByteArray) (a : Int) (h0 : 0 ≤ a) (h1 : a + xs.length ≤ 1099511627776) : ∀ (d i : Nat), i + d = xs.length → Ev (fun k => laws_heldStringS.l0 k (mkL mkS xs a).1 (mkL mkS (xs.take i) a).2 i) (mkL mkS xs a).2
  | 0, i, hd => by
    refine Ev.step (fun k => by rw [laws_heldStringS.l0]) (ev_if_neg (by rw [mkL_len]; omega) (ev_some ?_))
    rw [List.take_of_length_le (by omega)]
  | d + 1, i, hd => by
    have hi : i < xs.length := by omega
    have hi2 : i < (mkL mkS xs a).1.length := by rw [mkL_len]; exact hi
    have hc := mkS_count (xs.take i) a
    have hlt : ((xs.take i).length : Int) = i := by rw [List.length_take]; omega
    have ih := heldStrs_l0 xs a h0 h1 d (i + 1) (by omega)
    rw [mkL_next _ _ _ _ hi] at ih
    refine Ev.step (fun k => by rw [laws_heldStringS.l0]) (ev_if_pos (by rw [mkL_len]; omega) (ev_if_pos (by omega) ?_))
    rw [rdS hi2, mkL_get _ _ _ _ hi, wsucc (n := xs.length) hi (by omega), w64 (by omega) (by omega)]
    refine Ev.bind (mt_ev _ (by omega) (by omega)) (ev_if_pos rfl ?_)
    exact ih
theorem heldStrs_ev (xs : List ByteArray) (a : Int) (h0 : 0 ≤ a) (h1 : a + xs.length ≤ 1099511627776) : Ev (fun k => laws_heldStringS.f k (mkL mkS xs a).1 a) (mkL mkS xs a).2 := by
  unfold laws_heldStringS.f
  exact heldStrs_l0 xs a h0 h1 xs.length 0 (by omega)
end Go.Proofs.Ytchhognpijobcaa.G
