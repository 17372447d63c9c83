import Derived.Test.YtgcgkcchoghkaaaDoorMFnExactPatchTextCard1
import Derived.Test.YtgcgkcchoghkaaaDoorMFnExactPatchTextCard5
import Derived.Test.YtgcgkcchoghkaaaDoorMFnExactPatchTextCard7
import Derived.Test.YtgcgkcchoghkaaaDoorMFnExactPatchTextCard4
import Derived.Test.YtgcgkcchoghkaaaDoorMFnExactPatchTextCard6
/- G40 -/
-- Laid by wip/g/gprint.py out of the translation, by the kit's print program. Lean checks it.
namespace Go.Proofs.YtgcgkcchoghkaaaDoor.G
open Go.RowKit Go.Proofs.YtgcgkcchoghkaaaDoorW.PrintWords Go.Proofs.YtgcgkcchoghkaaaDoorW.PrintLast Go.Proofs.YtgcgkcchoghkaaaDoorW.PrintMore
attribute [local go_sem] max2_int min2_int max_two min_two max_three min_three max_four min_four   -- for this text's walks alone
set_option linter.unusedVariables false
set_option linter.unusedSimpArgs false

/-! ### spec_l4Look: function 40 -/
mutual
def spec_l4Look.l0 : Nat → Int → Int → Int → Int → ByteArray → Int → List ByteArray → List (S39) → Option (Int)
 | 0, _, _, _, _, _, _, _, _ => none
 | k + 1, x1, x5, x6, x130000, x130001, x130002, x130003, x130004 => if x6 < (x130004.length : Int) then (if 0 ≤ x6 then ((spec_l4Look.f k ((rd_T39 x130004 x6).f0) ((rd_T39 x130004 x6).f1) ((rd_T39 x130004 x6).f2) ((rd_T39 x130004 x6).f3) ((rd_T39 x130004 x6).f4) (wrap64 (x1 - 1))).bind fun t131 => (if t131 = 0 then (some 0) else (if (wrap64 (x5 + t131)) > 300 then (some 0) else (spec_l4Look.l0 k x1 (wrap64 (x5 + t131)) (wrap64 (x6 + 1)) x130000 x130001 x130002 x130003 x130004)))) else (none)) else (if (x130003.length : Int) = 0 then (spec_l4Look.j1 k x5 ((x130004.length : Int) == 0) x130000 x130001 x130002 x130003 x130004) else (spec_l4Look.j1 k x5 false x130000 x130001 x130002 x130003 x130004))
def spec_l4Look.j1 : Nat → Int → Bool → Int → ByteArray → Int → List ByteArray → List (S39) → Option (Int)
 | 0, _, _, _, _, _, _, _ => none
 | k + 1, x5, x8, x130000, x130001, x130002, x130003, x130004 => if x130000 = 1 then (if x8 = true then (if x130002 = 0 then ((spec_l4Text.f k x130001).bind fun t132 => (if t132 = true then (some x5) else (some 0))) else (some 0)) else (some 0)) else (if x130000 = 2 then (if x8 = true then (if (x130001.toList = ([] : List UInt8)) then (some x5) else (some 0)) else (some 0)) else (if x130000 = 3 then (if x8 = true then (if x130001.toList = ([] : List UInt8) then ((spec_l1In.f x130002 0 1).bind fun t133 => (if t133 = true then (some x5) else (some 0))) else (some 0)) else (some 0)) else (if x130000 = 4 then (if (x130003.length : Int) = 0 then (if x130001.toList = ([] : List UInt8) then (if x130002 = 0 then (some x5) else (some 0)) else (some 0)) else (some 0)) else (if x130000 = 5 then ((spec_l4Keys.f k x130000 x130001 x130002 x130003 x130004).bind fun t134 => (if t134 = true then (if x130001.toList = ([] : List UInt8) then (if x130002 = 0 then (some x5) else (some 0)) else (some 0)) else (some 0))) else (some 0)))))
def spec_l4Look.f : Nat → Int → ByteArray → Int → List ByteArray → List (S39) → Int → Option (Int)
 | 0, _, _, _, _, _, _ => none
 | k + 1, a0_0, a0_1, a0_2, l0_3, l0_4, a1 => if a1 = 0 then (some 0) else (spec_l4Look.l0 k a1 1 0 a0_0 a0_1 a0_2 l0_3 l0_4)
end
set_option maxHeartbeats 8000000 in
set_option maxRecDepth 100000 in
theorem spec_l4Look.calls (k : Nat) : ∀ (a0_0 : Int) (a0_1 : ByteArray) (a0_2 : Int) (A0_3 : Option Addr) (c0_3 : Nat) (l0_3 : List ByteArray) (A0_4 : Option Addr) (c0_4 : Nat) (l0_4 : List (S39)) (a1 : Int) (r : Int) (w : World) (hr0_3 : Kd.C Kd.string w A0_3 l0_3.length l0_3) (hc0_3 : l0_3.length ≤ c0_3) (hr0_4 : Kd.C k39 w A0_4 l0_4.length l0_4) (hc0_4 : l0_4.length ≤ c0_4) (h : spec_l4Look.f k a0_0 a0_1 a0_2 l0_3 l0_4 a1 = some r),
  Calls Tryd.prog 40 #[.agg #[.int .i64 a0_0, .string a0_1, .int .i64 a0_2, .slice A0_3 l0_3.length c0_3, .slice A0_4 l0_4.length c0_4], .int .i64 a1] w fun e w' => e = .returned (.int .i64 r) ∧ Below w.heap.size w w' := by
 induction k using Nat.strongRecOn with
 | _ k ih =>
 intro a0_0 a0_1 a0_2 A0_3 c0_3 l0_3 A0_4 c0_4 l0_4 a1 r w hr0_3 hc0_3 hr0_4 hc0_4 h
 cases k with
 | zero => exact absurd h (by simp [spec_l4Look.f])
 | succ k =>
 simp only [spec_l4Look.f] at h
 have hu39 := Tryd.underlying39
 have HR0_3 := Aside0.mk hr0_3
 have HC0_3 := Aside0.mk hc0_3
 clear hr0_3 hc0_3
 have HR0_4 := Aside0.mk hr0_4
 have HC0_4 := Aside0.mk hc0_4
 clear hr0_4 hc0_4
 have HB := Aside0.mk (Below.refl w.heap.size w)
 have H := h
 clear h
 by_cases c3 : a1 = 0
 ·rw [if_pos c3] at H
  have c3b0 : (a1 == 0) = true := beq_iff_eq.mpr c3
  have c3b1 : (a1 != 0) = false := bne_eq_false_iff_eq.mpr c3
  clear c3
  obtain rfl := Option.some.inj H
  go_enter Tryd.func40, Tryd.ntmps40
  go_wp2_with (first | ((with_reducible refine gate_dst (N := 2) rfl ?_); (try (refine gate_guard (by rfl) ?_; dsimp only)); refine box_event ?hg (N := 2) ?hd (cs := #[.int .i64 a0_0, .string a0_1, .int .i64 a0_2, .slice A0_3 l0_3.length c0_3, .slice A0_4 l0_4.length c0_4]) (t := 39) ?hr ?_; (case hd => rfl); (case hg => rfl); (case hr => go_simp); intro gb129 hg w4 hbox hb; have n0_ := Aside0.mk (below_step (qB HB) hb); have n1_ := Aside0.mk (hbox); have n2_ := Aside0.mk (qG HB hg); have n3_ := Aside0.mk (qG HB hg); clear HB; have HB := n0_; have BK129 := n1_; have GW129 := n2_; have GE129 := n3_; clear n0_ n1_ n2_ n3_; clear hb hbox hg))
  go_ret
  exact ⟨by first | rfl | (simp [errW_none, errW_some] <;> rfl) | (simp [*, errW_none, errW_some] <;> rfl), by repeat (first | (with_reducible first | exact HB.out | apply below_alloc | apply pw_below_drewN | apply below_drew1 | refine below_set ?_ GE129.out) | exact HB.out)⟩
 ·rw [if_neg c3] at H
  have c3b0 : (a1 == 0) = false := beq_eq_false_iff_ne.mpr c3
  have c3b1 : (a1 != 0) = true := bne_iff_ne.mpr c3
  have H' := Aside0.mk H
  clear H
  go_enter Tryd.func40, Tryd.ntmps40
  go_wp2_with (first | ((with_reducible refine gate_dst (N := 2) rfl ?_); (try (refine gate_guard (by rfl) ?_; dsimp only)); refine box_event ?hg (N := 2) ?hd (cs := #[.int .i64 a0_0, .string a0_1, .int .i64 a0_2, .slice A0_3 l0_3.length c0_3, .slice A0_4 l0_4.length c0_4]) (t := 39) ?hr ?_; (case hd => rfl); (case hg => rfl); (case hr => go_simp); intro gb129 hg w5 hbox hb; have n0_ := Aside0.mk (below_step (qB HB) hb); have n1_ := Aside0.mk (hbox); have n2_ := Aside0.mk (qG HB hg); have n3_ := Aside0.mk (qG HB hg); clear HB; have HB := n0_; have BK129 := n1_; have GW129 := n2_; have GE129 := n3_; clear n0_ n1_ n2_ n3_; clear hb hbox hg))
  go_loopg [5, 6] k (fun kq v5 v6 w' => ∃ (x5_1 : Int) (x6_1 : Int), v5 = .int .i64 x5_1 ∧ v6 = .int .i64 x6_1 ∧ Aside0 (spec_l4Look.l0 kq a1 x5_1 x6_1 a0_0 a0_1 a0_2 l0_3 l0_4 = some r) ∧ Aside0 (kq ≤ k) ∧ Aside0 (w'.heap[gb129]? = some (.cells #[.int .i64 a0_0, .string a0_1, .int .i64 a0_2, (.slice A0_3 l0_3.length c0_3), (.slice A0_4 l0_4.length c0_4)] 39 (0, 0))) ∧ Aside0 (Below w.heap.size w w'))
  case atStart => exact ⟨(1), (0), (by first | rfl | (simp; done) | (simp [*]; done)), (by first | rfl | (simp; done) | (simp [*]; done)), H', ⟨Nat.le_refl _⟩, ⟨qK BK129⟩, ⟨qB HB⟩⟩
  case round =>
   clear H'
   try clear p2
   try clear c3
   try clear c3b0
   try clear c3b1
   try clear c4
   obtain ⟨x5_1, x6_1, rfl, rfl, HA, HK1, BK129, HB⟩ := hrel
   cases gk with
   | zero => exact absurd HA.out (by simp [spec_l4Look.l0])
   | succ k1 =>
    have H := HA.out
    clear HA
    simp only [spec_l4Look.l0] at H
    by_cases c6 : x6_1 < (l0_4.length : Int)
    ·rw [if_pos c6] at H
     have c6b0 : decide (x6_1 < (l0_4.length : Int)) = true := decide_eq_true c6
     clear c6
     by_cases c7 : 0 ≤ x6_1
     ·rw [if_pos c7] at H
      have c7b0 : decide (0 ≤ x6_1) = true := decide_eq_true c7
      clear c7
      replace H := Option.bind_eq_some_iff.mp H
      obtain ⟨t131, A80, H⟩ := H
      try dsimp only at H
      have A8 := Aside0.mk A80
      clear A80
      by_cases c9 : t131 = 0
      ·rw [if_pos c9] at H
       have c9b0 : (t131 == 0) = true := beq_iff_eq.mpr c9
       have c9b1 : (t131 != 0) = false := bne_eq_false_iff_eq.mpr c9
       clear c9
       obtain rfl := Option.some.inj H
       obtain ⟨hcz10_0, hcz10_1, hcz10_2, hcz10_3, hcz10_4, hfz10_0, hfz10_1, hfz10_2, hfz10_3, hfz10_4⟩ := blk5 BK129
       have p130 : 0 ≤ (x6_1 : Int) := of_decide_eq_true (by first | (with_reducible assumption) | assumption)
       have q130 : x6_1 < (l0_4.length : Int) := of_decide_eq_true (by first | (with_reducible assumption) | assumption)
       obtain ⟨ad130, A130_3, c130_3, A130_4, c130_4, e130, hx130_0, hx130_1, hx130_2, hx130_3, hx130_4, hl130_3, hi130_3, hl130_4, hi130_4⟩ := at_T39 HR0_4.out x6_1 p130 q130
       cases e130
       replace hx130_0 := (HB.out.cell (World.block_lt_of_cell? w _ hx130_0)).trans hx130_0
       replace hx130_1 := (HB.out.cell (World.block_lt_of_cell? w _ hx130_1)).trans hx130_1
       replace hx130_2 := (HB.out.cell (World.block_lt_of_cell? w _ hx130_2)).trans hx130_2
       replace hx130_3 := (HB.out.cell (World.block_lt_of_cell? w _ hx130_3)).trans hx130_3
       replace hx130_4 := (HB.out.cell (World.block_lt_of_cell? w _ hx130_4)).trans hx130_4
       have HR130_3 := Aside0.mk hi130_3
       have HC130_3 := Aside0.mk hl130_3
       clear hi130_3 hl130_3
       have HR130_4 := Aside0.mk hi130_4
       have HC130_4 := Aside0.mk hl130_4
       clear hi130_4 hl130_4
       replace p130 := eq_true p130
       replace q130 := eq_true q130
       go_wp2_with (first | ((with_reducible refine gate_callee (f := 40) rfl ?_); refine goesL_ (some 26) rfl rfl Tryd.func40 (by kernel_rfl) rfl #[.agg #[.int .i64 ((rd_T39 l0_4 x6_1).f0), .string ((rd_T39 l0_4 x6_1).f1), .int .i64 ((rd_T39 l0_4 x6_1).f2), .slice A130_3 ((rd_T39 l0_4 x6_1).f3).length c130_3, .slice A130_4 ((rd_T39 l0_4 x6_1).f4).length c130_4], .int .i64 (wrap64 (a1 - 1))] rfl (by (try simp only [List.map_toArray, List.map_cons, List.map_nil]); first | done | rfl | (simp only [List.length_drop, List.length_take]; rfl)) ?_; (with_reducible refine (ih k1 (by have := HK1.out; omega) ((rd_T39 l0_4 x6_1).f0) ((rd_T39 l0_4 x6_1).f1) ((rd_T39 l0_4 x6_1).f2) _ _ ((rd_T39 l0_4 x6_1).f3) _ _ ((rd_T39 l0_4 x6_1).f4) (wrap64 (a1 - 1)) t131 _ (qC HR130_3 HB) HC130_3.out (qC HR130_4 HB) HC130_4.out A8.out).mono ?_); rintro e w11 ⟨rfl, hb⟩; refine ⟨_, rfl, ?_⟩; have n0_ := Aside0.mk (blk_below (qK BK129) hb); have n1_ := Aside0.mk (below_step (qB HB) hb); clear BK129; clear HB; have BK129 := n0_; have HB := n1_; clear n0_ n1_; (try clear hb); (try clear hb2); (try clear hk); (try clear hi)))
       go_ret
       exact ⟨by first | rfl | (simp [errW_none, errW_some] <;> rfl) | (simp [*, errW_none, errW_some] <;> rfl), by repeat (first | (with_reducible first | exact HB.out | apply below_alloc | apply pw_below_drewN | apply below_drew1 | refine below_set ?_ GE129.out) | exact HB.out)⟩
      ·rw [if_neg c9] at H
       have c9b0 : (t131 == 0) = false := beq_eq_false_iff_ne.mpr c9
       have c9b1 : (t131 != 0) = true := bne_iff_ne.mpr c9
       by_cases c12 : (wrap64 (x5_1 + t131)) > 300
       ·rw [if_pos c12] at H
        have c12b0 : decide (300 < (wrap64 (x5_1 + t131))) = true := decide_eq_true c12
        clear c12
        obtain rfl := Option.some.inj H
        obtain ⟨hcz13_0, hcz13_1, hcz13_2, hcz13_3, hcz13_4, hfz13_0, hfz13_1, hfz13_2, hfz13_3, hfz13_4⟩ := blk5 BK129
        have p130 : 0 ≤ (x6_1 : Int) := of_decide_eq_true (by first | (with_reducible assumption) | assumption)
        have q130 : x6_1 < (l0_4.length : Int) := of_decide_eq_true (by first | (with_reducible assumption) | assumption)
        obtain ⟨ad130, A130_3, c130_3, A130_4, c130_4, e130, hx130_0, hx130_1, hx130_2, hx130_3, hx130_4, hl130_3, hi130_3, hl130_4, hi130_4⟩ := at_T39 HR0_4.out x6_1 p130 q130
        cases e130
        replace hx130_0 := (HB.out.cell (World.block_lt_of_cell? w _ hx130_0)).trans hx130_0
        replace hx130_1 := (HB.out.cell (World.block_lt_of_cell? w _ hx130_1)).trans hx130_1
        replace hx130_2 := (HB.out.cell (World.block_lt_of_cell? w _ hx130_2)).trans hx130_2
        replace hx130_3 := (HB.out.cell (World.block_lt_of_cell? w _ hx130_3)).trans hx130_3
        replace hx130_4 := (HB.out.cell (World.block_lt_of_cell? w _ hx130_4)).trans hx130_4
        have HR130_3 := Aside0.mk hi130_3
        have HC130_3 := Aside0.mk hl130_3
        clear hi130_3 hl130_3
        have HR130_4 := Aside0.mk hi130_4
        have HC130_4 := Aside0.mk hl130_4
        clear hi130_4 hl130_4
        replace p130 := eq_true p130
        replace q130 := eq_true q130
        go_wp2_with (first | ((with_reducible refine gate_callee (f := 40) rfl ?_); refine goesL_ (some 26) rfl rfl Tryd.func40 (by kernel_rfl) rfl #[.agg #[.int .i64 ((rd_T39 l0_4 x6_1).f0), .string ((rd_T39 l0_4 x6_1).f1), .int .i64 ((rd_T39 l0_4 x6_1).f2), .slice A130_3 ((rd_T39 l0_4 x6_1).f3).length c130_3, .slice A130_4 ((rd_T39 l0_4 x6_1).f4).length c130_4], .int .i64 (wrap64 (a1 - 1))] rfl (by (try simp only [List.map_toArray, List.map_cons, List.map_nil]); first | done | rfl | (simp only [List.length_drop, List.length_take]; rfl)) ?_; (with_reducible refine (ih k1 (by have := HK1.out; omega) ((rd_T39 l0_4 x6_1).f0) ((rd_T39 l0_4 x6_1).f1) ((rd_T39 l0_4 x6_1).f2) _ _ ((rd_T39 l0_4 x6_1).f3) _ _ ((rd_T39 l0_4 x6_1).f4) (wrap64 (a1 - 1)) t131 _ (qC HR130_3 HB) HC130_3.out (qC HR130_4 HB) HC130_4.out A8.out).mono ?_); rintro e w14 ⟨rfl, hb⟩; refine ⟨_, rfl, ?_⟩; have n0_ := Aside0.mk (blk_below (qK BK129) hb); have n1_ := Aside0.mk (below_step (qB HB) hb); clear BK129; clear HB; have BK129 := n0_; have HB := n1_; clear n0_ n1_; (try clear hb); (try clear hb2); (try clear hk); (try clear hi)))
        go_ret
        exact ⟨by first | rfl | (simp [errW_none, errW_some] <;> rfl) | (simp [*, errW_none, errW_some] <;> rfl), by repeat (first | (with_reducible first | exact HB.out | apply below_alloc | apply pw_below_drewN | apply below_drew1 | refine below_set ?_ GE129.out) | exact HB.out)⟩
       ·rw [if_neg c12] at H
        have c12b0 : decide (300 < (wrap64 (x5_1 + t131))) = false := decide_eq_false c12
        clear c12
        have H' := Aside0.mk H
        clear H
        obtain ⟨hcz15_0, hcz15_1, hcz15_2, hcz15_3, hcz15_4, hfz15_0, hfz15_1, hfz15_2, hfz15_3, hfz15_4⟩ := blk5 BK129
        have p130 : 0 ≤ (x6_1 : Int) := of_decide_eq_true (by first | (with_reducible assumption) | assumption)
        have q130 : x6_1 < (l0_4.length : Int) := of_decide_eq_true (by first | (with_reducible assumption) | assumption)
        obtain ⟨ad130, A130_3, c130_3, A130_4, c130_4, e130, hx130_0, hx130_1, hx130_2, hx130_3, hx130_4, hl130_3, hi130_3, hl130_4, hi130_4⟩ := at_T39 HR0_4.out x6_1 p130 q130
        cases e130
        replace hx130_0 := (HB.out.cell (World.block_lt_of_cell? w _ hx130_0)).trans hx130_0
        replace hx130_1 := (HB.out.cell (World.block_lt_of_cell? w _ hx130_1)).trans hx130_1
        replace hx130_2 := (HB.out.cell (World.block_lt_of_cell? w _ hx130_2)).trans hx130_2
        replace hx130_3 := (HB.out.cell (World.block_lt_of_cell? w _ hx130_3)).trans hx130_3
        replace hx130_4 := (HB.out.cell (World.block_lt_of_cell? w _ hx130_4)).trans hx130_4
        have HR130_3 := Aside0.mk hi130_3
        have HC130_3 := Aside0.mk hl130_3
        clear hi130_3 hl130_3
        have HR130_4 := Aside0.mk hi130_4
        have HC130_4 := Aside0.mk hl130_4
        clear hi130_4 hl130_4
        replace p130 := eq_true p130
        replace q130 := eq_true q130
        go_wp2_with (first | ((with_reducible refine gate_callee (f := 40) rfl ?_); refine goesL_ (some 26) rfl rfl Tryd.func40 (by kernel_rfl) rfl #[.agg #[.int .i64 ((rd_T39 l0_4 x6_1).f0), .string ((rd_T39 l0_4 x6_1).f1), .int .i64 ((rd_T39 l0_4 x6_1).f2), .slice A130_3 ((rd_T39 l0_4 x6_1).f3).length c130_3, .slice A130_4 ((rd_T39 l0_4 x6_1).f4).length c130_4], .int .i64 (wrap64 (a1 - 1))] rfl (by (try simp only [List.map_toArray, List.map_cons, List.map_nil]); first | done | rfl | (simp only [List.length_drop, List.length_take]; rfl)) ?_; (with_reducible refine (ih k1 (by have := HK1.out; omega) ((rd_T39 l0_4 x6_1).f0) ((rd_T39 l0_4 x6_1).f1) ((rd_T39 l0_4 x6_1).f2) _ _ ((rd_T39 l0_4 x6_1).f3) _ _ ((rd_T39 l0_4 x6_1).f4) (wrap64 (a1 - 1)) t131 _ (qC HR130_3 HB) HC130_3.out (qC HR130_4 HB) HC130_4.out A8.out).mono ?_); rintro e w16 ⟨rfl, hb⟩; refine ⟨_, rfl, ?_⟩; have n0_ := Aside0.mk (blk_below (qK BK129) hb); have n1_ := Aside0.mk (below_step (qB HB) hb); clear BK129; clear HB; have BK129 := n0_; have HB := n1_; clear n0_ n1_; (try clear hb); (try clear hb2); (try clear hk); (try clear hi)))
        go_roundg k1
        case measure => have := HK1.out; omega
        case rel => exact ⟨(wrap64 (x5_1 + t131)), (wrap64 (x6_1 + 1)), (by first | rfl | (simp; done) | (simp [*]; done)), (by first | rfl | (simp; done) | (simp [*]; done)), H', ⟨by have := HK1.out; omega⟩, ⟨qK BK129⟩, ⟨qB HB⟩⟩
     ·rw [if_neg c7] at H
      exact absurd H (by simp)
    ·rw [if_neg c6] at H
     have c6b0 : decide (x6_1 < (l0_4.length : Int)) = false := decide_eq_false c6
     clear c6
     have HC17 := Aside0.mk H
     clear H
     obtain ⟨hcz18_0, hcz18_1, hcz18_2, hcz18_3, hcz18_4, hfz18_0, hfz18_1, hfz18_2, hfz18_3, hfz18_4⟩ := blk5 BK129
     go_upto_region 11 with (fail)
     go_cut [8] (fun v8 wc => ∃ (kq : Nat) (x8_16 : Bool), v8 = .bool x8_16 ∧ Aside0 (spec_l4Look.j1 kq x5_1 x8_16 a0_0 a0_1 a0_2 l0_3 l0_4 = some r) ∧ Aside0 (kq ≤ k1) ∧ Aside0 (wc.heap[gb129]? = some (.cells #[.int .i64 a0_0, .string a0_1, .int .i64 a0_2, (.slice A0_3 l0_3.length c0_3), (.slice A0_4 l0_4.length c0_4)] 39 (0, 0))) ∧ Aside0 (Below w.heap.size w wc))
     case first =>
      have H := HC17.out
      clear HC17
      by_cases c19 : (l0_3.length : Int) = 0
      ·rw [if_pos c19] at H
       have c19b0 : ((l0_3.length : Int) == 0) = true := beq_iff_eq.mpr c19
       have c19b1 : ((l0_3.length : Int) != 0) = false := bne_eq_false_iff_eq.mpr c19
       clear c19
       (first | rw [c19b0] | (simp only [i64_w, i32_w]; rw [c19b0]) | skip)
       have H' := Aside0.mk H
       clear H
       obtain ⟨hcz20_0, hcz20_1, hcz20_2, hcz20_3, hcz20_4, hfz20_0, hfz20_1, hfz20_2, hfz20_3, hfz20_4⟩ := blk5 BK129
       go_wp2
       go_meet
       case rel => exact ⟨_, (((l0_4.length : Int) == 0)), (by first | rfl | (simp; done) | (simp [*]; done)), H', ⟨by have := HK1.out; first | omega | exact Nat.le_refl _⟩, ⟨qK BK129⟩, ⟨qB HB⟩⟩
      ·rw [if_neg c19] at H
       have c19b0 : ((l0_3.length : Int) == 0) = false := beq_eq_false_iff_ne.mpr c19
       have c19b1 : ((l0_3.length : Int) != 0) = true := bne_iff_ne.mpr c19
       have c19b2 : ¬ (l0_3 = []) := fun h_ => c19 (by rw [h_]; rfl)
       (first | rw [c19b0] | (simp only [i64_w, i32_w]; rw [c19b0]) | skip)
       have H' := Aside0.mk H
       clear H
       obtain ⟨hcz21_0, hcz21_1, hcz21_2, hcz21_3, hcz21_4, hfz21_0, hfz21_1, hfz21_2, hfz21_3, hfz21_4⟩ := blk5 BK129
       go_wp2
       go_meet
       case rel => exact ⟨_, (false), (by first | rfl | (simp; done) | (simp [*]; done)), H', ⟨by have := HK1.out; first | omega | exact Nat.le_refl _⟩, ⟨qK BK129⟩, ⟨qB HB⟩⟩
     case rest =>
      clear HC17
      try clear c1
      try clear p1
      try clear q1
      try clear hx1
      try clear p2
      try clear c3
      try clear c3b0
      try clear c3b1
      try clear c4
      try clear c6
      try clear c6b0
      try clear p6
      try clear c7
      try clear c7b0
      try clear c9
      try clear c9b0
      try clear c9b1
      try clear c12
      try clear c12b0
      try clear c13
      try clear p13
      try clear q13
      try clear hx13
      try clear c19
      try clear c19b0
      try clear c19b1
      try clear c19b2
      try clear hcz10_0
      try clear hcz10_1
      try clear hcz10_2
      try clear hcz10_3
      try clear hcz10_4
      try clear hcz13_0
      try clear hcz13_1
      try clear hcz13_2
      try clear hcz13_3
      try clear hcz13_4
      try clear hcz15_0
      try clear hcz15_1
      try clear hcz15_2
      try clear hcz15_3
      try clear hcz15_4
      try clear hcz18_0
      try clear hcz18_1
      try clear hcz18_2
      try clear hcz18_3
      try clear hcz18_4
      try clear hcz20_0
      try clear hcz20_1
      try clear hcz20_2
      try clear hcz20_3
      try clear hcz20_4
      try clear hcz21_0
      try clear hcz21_1
      try clear hcz21_2
      try clear hcz21_3
      try clear hcz21_4
      try clear hfz10_0
      try clear hfz10_1
      try clear hfz10_2
      try clear hfz10_3
      try clear hfz10_4
      try clear hfz13_0
      try clear hfz13_1
      try clear hfz13_2
      try clear hfz13_3
      try clear hfz13_4
      try clear hfz15_0
      try clear hfz15_1
      try clear hfz15_2
      try clear hfz15_3
      try clear hfz15_4
      try clear hfz18_0
      try clear hfz18_1
      try clear hfz18_2
      try clear hfz18_3
      try clear hfz18_4
      try clear hfz20_0
      try clear hfz20_1
      try clear hfz20_2
      try clear hfz20_3
      try clear hfz20_4
      try clear hfz21_0
      try clear hfz21_1
      try clear hfz21_2
      try clear hfz21_3
      try clear hfz21_4
      try clear hx130_0
      try clear hx130_1
      try clear hx130_2
      try clear hx130_3
      try clear hx130_4
      try clear p130
      try clear p2
      try clear q130
      obtain ⟨kq, x8_16, rfl, HA, HJ16, BK129, HB⟩ := hcut
      cases kq with
      | zero => exact absurd HA.out (by simp [spec_l4Look.j1])
      | succ kj16 =>
       have H := HA.out
       clear HA
       simp only [spec_l4Look.j1] at H
       by_cases c22 : a0_0 = 1
       ·rw [if_pos c22] at H
        have c22b0 : (a0_0 == 1) = true := beq_iff_eq.mpr c22
        have c22b1 : (a0_0 != 1) = false := bne_eq_false_iff_eq.mpr c22
        clear c22
        by_cases c23 : x8_16 = true
        ·subst c23
         have H1 : (if a0_2 = 0 then ((spec_l4Text.f kj16 a0_1).bind fun t132 => (if t132 = true then (some x5_1) else (some 0))) else (some 0)) = some r := by rw [if_pos rfl] at H; exact H
         clear H
         have H := H1
         clear H1
         by_cases c24 : a0_2 = 0
         ·rw [if_pos c24] at H
          have c24b0 : (a0_2 == 0) = true := beq_iff_eq.mpr c24
          have c24b1 : (a0_2 != 0) = false := bne_eq_false_iff_eq.mpr c24
          clear c24
          replace H := Option.bind_eq_some_iff.mp H
          obtain ⟨t132, A250, H⟩ := H
          try dsimp only at H
          have A25 := Aside0.mk A250
          clear A250
          by_cases c26 : t132 = true
          ·subst c26
           have H1 : (some x5_1) = some r := by rw [if_pos rfl] at H; exact H
           clear H
           have H := H1
           clear H1
           obtain rfl := Option.some.inj H
           obtain ⟨hcz27_0, hcz27_1, hcz27_2, hcz27_3, hcz27_4, hfz27_0, hfz27_1, hfz27_2, hfz27_3, hfz27_4⟩ := blk5 BK129
           go_wp2_with (first | (go_at_call 55; (with_reducible refine (spec_l4Text.calls kj16 a0_1 true _ A25.out).mono ?_); rintro e w' ⟨rfl, ⟨nd, rfl⟩⟩))
           go_ret
           exact ⟨by first | rfl | (simp [errW_none, errW_some] <;> rfl) | (simp [*, errW_none, errW_some] <;> rfl), by repeat (first | (with_reducible first | exact HB.out | apply below_alloc | apply pw_below_drewN | apply below_drew1 | refine below_set ?_ GE129.out) | exact HB.out)⟩
          ·replace c26 := Bool.eq_false_iff.mpr c26
           subst c26
           have H1 : (some 0) = some r := by rw [if_neg (show ¬ (false = true) by decide)] at H; exact H
           clear H
           have H := H1
           clear H1
           obtain rfl := Option.some.inj H
           obtain ⟨hcz28_0, hcz28_1, hcz28_2, hcz28_3, hcz28_4, hfz28_0, hfz28_1, hfz28_2, hfz28_3, hfz28_4⟩ := blk5 BK129
           go_wp2_with (first | (go_at_call 55; (with_reducible refine (spec_l4Text.calls kj16 a0_1 false _ A25.out).mono ?_); rintro e w' ⟨rfl, ⟨nd, rfl⟩⟩))
           go_ret
           exact ⟨by first | rfl | (simp [errW_none, errW_some] <;> rfl) | (simp [*, errW_none, errW_some] <;> rfl), by repeat (first | (with_reducible first | exact HB.out | apply below_alloc | apply pw_below_drewN | apply below_drew1 | refine below_set ?_ GE129.out) | exact HB.out)⟩
         ·rw [if_neg c24] at H
          have c24b0 : (a0_2 == 0) = false := beq_eq_false_iff_ne.mpr c24
          have c24b1 : (a0_2 != 0) = true := bne_iff_ne.mpr c24
          obtain rfl := Option.some.inj H
          obtain ⟨hcz29_0, hcz29_1, hcz29_2, hcz29_3, hcz29_4, hfz29_0, hfz29_1, hfz29_2, hfz29_3, hfz29_4⟩ := blk5 BK129
          go_wp2
          go_ret
          exact ⟨by first | rfl | (simp [errW_none, errW_some] <;> rfl) | (simp [*, errW_none, errW_some] <;> rfl), by repeat (first | (with_reducible first | exact HB.out | apply below_alloc | apply pw_below_drewN | apply below_drew1 | refine below_set ?_ GE129.out) | exact HB.out)⟩
        ·replace c23 := Bool.eq_false_iff.mpr c23
         subst c23
         have H1 : (some 0) = some r := by rw [if_neg (show ¬ (false = true) by decide)] at H; exact H
         clear H
         have H := H1
         clear H1
         obtain rfl := Option.some.inj H
         obtain ⟨hcz30_0, hcz30_1, hcz30_2, hcz30_3, hcz30_4, hfz30_0, hfz30_1, hfz30_2, hfz30_3, hfz30_4⟩ := blk5 BK129
         go_wp2
         go_ret
         exact ⟨by first | rfl | (simp [errW_none, errW_some] <;> rfl) | (simp [*, errW_none, errW_some] <;> rfl), by repeat (first | (with_reducible first | exact HB.out | apply below_alloc | apply pw_below_drewN | apply below_drew1 | refine below_set ?_ GE129.out) | exact HB.out)⟩
       ·rw [if_neg c22] at H
        have c22b0 : (a0_0 == 1) = false := beq_eq_false_iff_ne.mpr c22
        have c22b1 : (a0_0 != 1) = true := bne_iff_ne.mpr c22
        by_cases c31 : a0_0 = 2
        ·rw [if_pos c31] at H
         have c31b0 : (a0_0 == 2) = true := beq_iff_eq.mpr c31
         have c31b1 : (a0_0 != 2) = false := bne_eq_false_iff_eq.mpr c31
         clear c31
         by_cases c32 : x8_16 = true
         ·subst c32
          have H1 : (if (a0_1.toList = ([] : List UInt8)) then (some x5_1) else (some 0)) = some r := by rw [if_pos rfl] at H; exact H
          clear H
          have H := H1
          clear H1
          by_cases c33 : (a0_1.toList = ([] : List UInt8))
          ·rw [if_pos c33] at H
           have c33b0 : (a0_1.toList == ([] : List UInt8)) = true := beq_iff_eq.mpr c33
           have c33b1 : (a0_1.toList != ([] : List UInt8)) = false := bne_eq_false_iff_eq.mpr c33
           clear c33
           obtain rfl := Option.some.inj H
           obtain ⟨hcz34_0, hcz34_1, hcz34_2, hcz34_3, hcz34_4, hfz34_0, hfz34_1, hfz34_2, hfz34_3, hfz34_4⟩ := blk5 BK129
           go_wp2
           go_ret
           exact ⟨by first | rfl | (simp [errW_none, errW_some] <;> rfl) | (simp [*, errW_none, errW_some] <;> rfl), by repeat (first | (with_reducible first | exact HB.out | apply below_alloc | apply pw_below_drewN | apply below_drew1 | refine below_set ?_ GE129.out) | exact HB.out)⟩
          ·rw [if_neg c33] at H
           have c33b0 : (a0_1.toList == ([] : List UInt8)) = false := beq_eq_false_iff_ne.mpr c33
           have c33b1 : (a0_1.toList != ([] : List UInt8)) = true := bne_iff_ne.mpr c33
           obtain rfl := Option.some.inj H
           obtain ⟨hcz35_0, hcz35_1, hcz35_2, hcz35_3, hcz35_4, hfz35_0, hfz35_1, hfz35_2, hfz35_3, hfz35_4⟩ := blk5 BK129
           go_wp2
           go_ret
           exact ⟨by first | rfl | (simp [errW_none, errW_some] <;> rfl) | (simp [*, errW_none, errW_some] <;> rfl), by repeat (first | (with_reducible first | exact HB.out | apply below_alloc | apply pw_below_drewN | apply below_drew1 | refine below_set ?_ GE129.out) | exact HB.out)⟩
         ·replace c32 := Bool.eq_false_iff.mpr c32
          subst c32
          have H1 : (some 0) = some r := by rw [if_neg (show ¬ (false = true) by decide)] at H; exact H
          clear H
          have H := H1
          clear H1
          obtain rfl := Option.some.inj H
          obtain ⟨hcz36_0, hcz36_1, hcz36_2, hcz36_3, hcz36_4, hfz36_0, hfz36_1, hfz36_2, hfz36_3, hfz36_4⟩ := blk5 BK129
          go_wp2
          go_ret
          exact ⟨by first | rfl | (simp [errW_none, errW_some] <;> rfl) | (simp [*, errW_none, errW_some] <;> rfl), by repeat (first | (with_reducible first | exact HB.out | apply below_alloc | apply pw_below_drewN | apply below_drew1 | refine below_set ?_ GE129.out) | exact HB.out)⟩
        ·rw [if_neg c31] at H
         have c31b0 : (a0_0 == 2) = false := beq_eq_false_iff_ne.mpr c31
         have c31b1 : (a0_0 != 2) = true := bne_iff_ne.mpr c31
         by_cases c37 : a0_0 = 3
         ·rw [if_pos c37] at H
          have c37b0 : (a0_0 == 3) = true := beq_iff_eq.mpr c37
          have c37b1 : (a0_0 != 3) = false := bne_eq_false_iff_eq.mpr c37
          clear c37
          by_cases c38 : x8_16 = true
          ·subst c38
           have H1 : (if a0_1.toList = ([] : List UInt8) then ((spec_l1In.f a0_2 0 1).bind fun t133 => (if t133 = true then (some x5_1) else (some 0))) else (some 0)) = some r := by rw [if_pos rfl] at H; exact H
           clear H
           have H := H1
           clear H1
           by_cases c39 : a0_1.toList = ([] : List UInt8)
           ·rw [if_pos c39] at H
            have c39b0 : (a0_1.toList == ([] : List UInt8)) = true := beq_iff_eq.mpr c39
            have c39b1 : (a0_1.toList != ([] : List UInt8)) = false := bne_eq_false_iff_eq.mpr c39
            clear c39
            replace H := Option.bind_eq_some_iff.mp H
            obtain ⟨t133, A400, H⟩ := H
            try dsimp only at H
            have A40 := Aside0.mk A400
            clear A400
            by_cases c41 : t133 = true
            ·subst c41
             have H1 : (some x5_1) = some r := by rw [if_pos rfl] at H; exact H
             clear H
             have H := H1
             clear H1
             obtain rfl := Option.some.inj H
             obtain ⟨hcz42_0, hcz42_1, hcz42_2, hcz42_3, hcz42_4, hfz42_0, hfz42_1, hfz42_2, hfz42_3, hfz42_4⟩ := blk5 BK129
             go_wp2_with (first | (go_at_call 19; (with_reducible refine (spec_l1In.calls a0_2 0 1 true _ A40.out).mono ?_); rintro e w' ⟨rfl, ⟨nd, rfl⟩⟩))
             go_ret
             exact ⟨by first | rfl | (simp [errW_none, errW_some] <;> rfl) | (simp [*, errW_none, errW_some] <;> rfl), by repeat (first | (with_reducible first | exact HB.out | apply below_alloc | apply pw_below_drewN | apply below_drew1 | refine below_set ?_ GE129.out) | exact HB.out)⟩
            ·replace c41 := Bool.eq_false_iff.mpr c41
             subst c41
             have H1 : (some 0) = some r := by rw [if_neg (show ¬ (false = true) by decide)] at H; exact H
             clear H
             have H := H1
             clear H1
             obtain rfl := Option.some.inj H
             obtain ⟨hcz43_0, hcz43_1, hcz43_2, hcz43_3, hcz43_4, hfz43_0, hfz43_1, hfz43_2, hfz43_3, hfz43_4⟩ := blk5 BK129
             go_wp2_with (first | (go_at_call 19; (with_reducible refine (spec_l1In.calls a0_2 0 1 false _ A40.out).mono ?_); rintro e w' ⟨rfl, ⟨nd, rfl⟩⟩))
             go_ret
             exact ⟨by first | rfl | (simp [errW_none, errW_some] <;> rfl) | (simp [*, errW_none, errW_some] <;> rfl), by repeat (first | (with_reducible first | exact HB.out | apply below_alloc | apply pw_below_drewN | apply below_drew1 | refine below_set ?_ GE129.out) | exact HB.out)⟩
           ·rw [if_neg c39] at H
            have c39b0 : (a0_1.toList == ([] : List UInt8)) = false := beq_eq_false_iff_ne.mpr c39
            have c39b1 : (a0_1.toList != ([] : List UInt8)) = true := bne_iff_ne.mpr c39
            obtain rfl := Option.some.inj H
            obtain ⟨hcz44_0, hcz44_1, hcz44_2, hcz44_3, hcz44_4, hfz44_0, hfz44_1, hfz44_2, hfz44_3, hfz44_4⟩ := blk5 BK129
            go_wp2
            go_ret
            exact ⟨by first | rfl | (simp [errW_none, errW_some] <;> rfl) | (simp [*, errW_none, errW_some] <;> rfl), by repeat (first | (with_reducible first | exact HB.out | apply below_alloc | apply pw_below_drewN | apply below_drew1 | refine below_set ?_ GE129.out) | exact HB.out)⟩
          ·replace c38 := Bool.eq_false_iff.mpr c38
           subst c38
           have H1 : (some 0) = some r := by rw [if_neg (show ¬ (false = true) by decide)] at H; exact H
           clear H
           have H := H1
           clear H1
           obtain rfl := Option.some.inj H
           obtain ⟨hcz45_0, hcz45_1, hcz45_2, hcz45_3, hcz45_4, hfz45_0, hfz45_1, hfz45_2, hfz45_3, hfz45_4⟩ := blk5 BK129
           go_wp2
           go_ret
           exact ⟨by first | rfl | (simp [errW_none, errW_some] <;> rfl) | (simp [*, errW_none, errW_some] <;> rfl), by repeat (first | (with_reducible first | exact HB.out | apply below_alloc | apply pw_below_drewN | apply below_drew1 | refine below_set ?_ GE129.out) | exact HB.out)⟩
         ·rw [if_neg c37] at H
          have c37b0 : (a0_0 == 3) = false := beq_eq_false_iff_ne.mpr c37
          have c37b1 : (a0_0 != 3) = true := bne_iff_ne.mpr c37
          by_cases c46 : a0_0 = 4
          ·rw [if_pos c46] at H
           have c46b0 : (a0_0 == 4) = true := beq_iff_eq.mpr c46
           have c46b1 : (a0_0 != 4) = false := bne_eq_false_iff_eq.mpr c46
           clear c46
           by_cases c47 : (l0_3.length : Int) = 0
           ·rw [if_pos c47] at H
            have c47b0 : ((l0_3.length : Int) == 0) = true := beq_iff_eq.mpr c47
            have c47b1 : ((l0_3.length : Int) != 0) = false := bne_eq_false_iff_eq.mpr c47
            clear c47
            by_cases c48 : a0_1.toList = ([] : List UInt8)
            ·rw [if_pos c48] at H
             have c48b0 : (a0_1.toList == ([] : List UInt8)) = true := beq_iff_eq.mpr c48
             have c48b1 : (a0_1.toList != ([] : List UInt8)) = false := bne_eq_false_iff_eq.mpr c48
             clear c48
             by_cases c49 : a0_2 = 0
             ·rw [if_pos c49] at H
              have c49b0 : (a0_2 == 0) = true := beq_iff_eq.mpr c49
              have c49b1 : (a0_2 != 0) = false := bne_eq_false_iff_eq.mpr c49
              clear c49
              obtain rfl := Option.some.inj H
              obtain ⟨hcz50_0, hcz50_1, hcz50_2, hcz50_3, hcz50_4, hfz50_0, hfz50_1, hfz50_2, hfz50_3, hfz50_4⟩ := blk5 BK129
              go_wp2
              go_ret
              exact ⟨by first | rfl | (simp [errW_none, errW_some] <;> rfl) | (simp [*, errW_none, errW_some] <;> rfl), by repeat (first | (with_reducible first | exact HB.out | apply below_alloc | apply pw_below_drewN | apply below_drew1 | refine below_set ?_ GE129.out) | exact HB.out)⟩
             ·rw [if_neg c49] at H
              have c49b0 : (a0_2 == 0) = false := beq_eq_false_iff_ne.mpr c49
              have c49b1 : (a0_2 != 0) = true := bne_iff_ne.mpr c49
              obtain rfl := Option.some.inj H
              obtain ⟨hcz51_0, hcz51_1, hcz51_2, hcz51_3, hcz51_4, hfz51_0, hfz51_1, hfz51_2, hfz51_3, hfz51_4⟩ := blk5 BK129
              go_wp2
              go_ret
              exact ⟨by first | rfl | (simp [errW_none, errW_some] <;> rfl) | (simp [*, errW_none, errW_some] <;> rfl), by repeat (first | (with_reducible first | exact HB.out | apply below_alloc | apply pw_below_drewN | apply below_drew1 | refine below_set ?_ GE129.out) | exact HB.out)⟩
            ·rw [if_neg c48] at H
             have c48b0 : (a0_1.toList == ([] : List UInt8)) = false := beq_eq_false_iff_ne.mpr c48
             have c48b1 : (a0_1.toList != ([] : List UInt8)) = true := bne_iff_ne.mpr c48
             obtain rfl := Option.some.inj H
             obtain ⟨hcz52_0, hcz52_1, hcz52_2, hcz52_3, hcz52_4, hfz52_0, hfz52_1, hfz52_2, hfz52_3, hfz52_4⟩ := blk5 BK129
             go_wp2
             go_ret
             exact ⟨by first | rfl | (simp [errW_none, errW_some] <;> rfl) | (simp [*, errW_none, errW_some] <;> rfl), by repeat (first | (with_reducible first | exact HB.out | apply below_alloc | apply pw_below_drewN | apply below_drew1 | refine below_set ?_ GE129.out) | exact HB.out)⟩
           ·rw [if_neg c47] at H
            have c47b0 : ((l0_3.length : Int) == 0) = false := beq_eq_false_iff_ne.mpr c47
            have c47b1 : ((l0_3.length : Int) != 0) = true := bne_iff_ne.mpr c47
            have c47b2 : ¬ (l0_3 = []) := fun h_ => c47 (by rw [h_]; rfl)
            obtain rfl := Option.some.inj H
            obtain ⟨hcz53_0, hcz53_1, hcz53_2, hcz53_3, hcz53_4, hfz53_0, hfz53_1, hfz53_2, hfz53_3, hfz53_4⟩ := blk5 BK129
            go_wp2
            go_ret
            exact ⟨by first | rfl | (simp [errW_none, errW_some] <;> rfl) | (simp [*, errW_none, errW_some] <;> rfl), by repeat (first | (with_reducible first | exact HB.out | apply below_alloc | apply pw_below_drewN | apply below_drew1 | refine below_set ?_ GE129.out) | exact HB.out)⟩
          ·rw [if_neg c46] at H
           have c46b0 : (a0_0 == 4) = false := beq_eq_false_iff_ne.mpr c46
           have c46b1 : (a0_0 != 4) = true := bne_iff_ne.mpr c46
           by_cases c54 : a0_0 = 5
           ·rw [if_pos c54] at H
            have c54b0 : (a0_0 == 5) = true := beq_iff_eq.mpr c54
            have c54b1 : (a0_0 != 5) = false := bne_eq_false_iff_eq.mpr c54
            clear c54
            replace H := Option.bind_eq_some_iff.mp H
            obtain ⟨t134, A550, H⟩ := H
            try dsimp only at H
            have A55 := Aside0.mk A550
            clear A550
            by_cases c56 : t134 = true
            ·subst c56
             have H1 : (if a0_1.toList = ([] : List UInt8) then (if a0_2 = 0 then (some x5_1) else (some 0)) else (some 0)) = some r := by rw [if_pos rfl] at H; exact H
             clear H
             have H := H1
             clear H1
             by_cases c57 : a0_1.toList = ([] : List UInt8)
             ·rw [if_pos c57] at H
              have c57b0 : (a0_1.toList == ([] : List UInt8)) = true := beq_iff_eq.mpr c57
              have c57b1 : (a0_1.toList != ([] : List UInt8)) = false := bne_eq_false_iff_eq.mpr c57
              clear c57
              by_cases c58 : a0_2 = 0
              ·rw [if_pos c58] at H
               have c58b0 : (a0_2 == 0) = true := beq_iff_eq.mpr c58
               have c58b1 : (a0_2 != 0) = false := bne_eq_false_iff_eq.mpr c58
               clear c58
               obtain rfl := Option.some.inj H
               obtain ⟨hcz59_0, hcz59_1, hcz59_2, hcz59_3, hcz59_4, hfz59_0, hfz59_1, hfz59_2, hfz59_3, hfz59_4⟩ := blk5 BK129
               go_wp2_with (first | ((with_reducible refine gate_callee (f := 56) rfl ?_); refine goesL_ (some 103) rfl rfl Tryd.func56 (by kernel_rfl) rfl #[.agg #[.int .i64 a0_0, .string a0_1, .int .i64 a0_2, .slice A0_3 l0_3.length c0_3, .slice A0_4 l0_4.length c0_4]] rfl (by (try simp only [List.map_toArray, List.map_cons, List.map_nil]); first | done | rfl | (simp only [List.length_drop, List.length_take]; rfl)) ?_; (with_reducible refine (spec_l4Keys.calls kj16 a0_0 a0_1 a0_2 _ _ l0_3 _ _ l0_4 true _ (qC HR0_3 HB) HC0_3.out (qC HR0_4 HB) HC0_4.out A55.out).mono ?_); rintro e w60 ⟨rfl, hb⟩; refine ⟨_, rfl, ?_⟩; have n0_ := Aside0.mk (blk_below (qK BK129) hb); have n1_ := Aside0.mk (below_step (qB HB) hb); clear BK129; clear HB; have BK129 := n0_; have HB := n1_; clear n0_ n1_; (try clear hb); (try clear hb2); (try clear hk); (try clear hi); obtain ⟨hcz61_0, hcz61_1, hcz61_2, hcz61_3, hcz61_4, hfz61_0, hfz61_1, hfz61_2, hfz61_3, hfz61_4⟩ := blk5 BK129))
               go_ret
               exact ⟨by first | rfl | (simp [errW_none, errW_some] <;> rfl) | (simp [*, errW_none, errW_some] <;> rfl), by repeat (first | (with_reducible first | exact HB.out | apply below_alloc | apply pw_below_drewN | apply below_drew1 | refine below_set ?_ GE129.out) | exact HB.out)⟩
              ·rw [if_neg c58] at H
               have c58b0 : (a0_2 == 0) = false := beq_eq_false_iff_ne.mpr c58
               have c58b1 : (a0_2 != 0) = true := bne_iff_ne.mpr c58
               obtain rfl := Option.some.inj H
               obtain ⟨hcz62_0, hcz62_1, hcz62_2, hcz62_3, hcz62_4, hfz62_0, hfz62_1, hfz62_2, hfz62_3, hfz62_4⟩ := blk5 BK129
               go_wp2_with (first | ((with_reducible refine gate_callee (f := 56) rfl ?_); refine goesL_ (some 103) rfl rfl Tryd.func56 (by kernel_rfl) rfl #[.agg #[.int .i64 a0_0, .string a0_1, .int .i64 a0_2, .slice A0_3 l0_3.length c0_3, .slice A0_4 l0_4.length c0_4]] rfl (by (try simp only [List.map_toArray, List.map_cons, List.map_nil]); first | done | rfl | (simp only [List.length_drop, List.length_take]; rfl)) ?_; (with_reducible refine (spec_l4Keys.calls kj16 a0_0 a0_1 a0_2 _ _ l0_3 _ _ l0_4 true _ (qC HR0_3 HB) HC0_3.out (qC HR0_4 HB) HC0_4.out A55.out).mono ?_); rintro e w63 ⟨rfl, hb⟩; refine ⟨_, rfl, ?_⟩; have n0_ := Aside0.mk (blk_below (qK BK129) hb); have n1_ := Aside0.mk (below_step (qB HB) hb); clear BK129; clear HB; have BK129 := n0_; have HB := n1_; clear n0_ n1_; (try clear hb); (try clear hb2); (try clear hk); (try clear hi); obtain ⟨hcz64_0, hcz64_1, hcz64_2, hcz64_3, hcz64_4, hfz64_0, hfz64_1, hfz64_2, hfz64_3, hfz64_4⟩ := blk5 BK129))
               go_ret
               exact ⟨by first | rfl | (simp [errW_none, errW_some] <;> rfl) | (simp [*, errW_none, errW_some] <;> rfl), by repeat (first | (with_reducible first | exact HB.out | apply below_alloc | apply pw_below_drewN | apply below_drew1 | refine below_set ?_ GE129.out) | exact HB.out)⟩
             ·rw [if_neg c57] at H
              have c57b0 : (a0_1.toList == ([] : List UInt8)) = false := beq_eq_false_iff_ne.mpr c57
              have c57b1 : (a0_1.toList != ([] : List UInt8)) = true := bne_iff_ne.mpr c57
              obtain rfl := Option.some.inj H
              obtain ⟨hcz65_0, hcz65_1, hcz65_2, hcz65_3, hcz65_4, hfz65_0, hfz65_1, hfz65_2, hfz65_3, hfz65_4⟩ := blk5 BK129
              go_wp2_with (first | ((with_reducible refine gate_callee (f := 56) rfl ?_); refine goesL_ (some 103) rfl rfl Tryd.func56 (by kernel_rfl) rfl #[.agg #[.int .i64 a0_0, .string a0_1, .int .i64 a0_2, .slice A0_3 l0_3.length c0_3, .slice A0_4 l0_4.length c0_4]] rfl (by (try simp only [List.map_toArray, List.map_cons, List.map_nil]); first | done | rfl | (simp only [List.length_drop, List.length_take]; rfl)) ?_; (with_reducible refine (spec_l4Keys.calls kj16 a0_0 a0_1 a0_2 _ _ l0_3 _ _ l0_4 true _ (qC HR0_3 HB) HC0_3.out (qC HR0_4 HB) HC0_4.out A55.out).mono ?_); rintro e w66 ⟨rfl, hb⟩; refine ⟨_, rfl, ?_⟩; have n0_ := Aside0.mk (blk_below (qK BK129) hb); have n1_ := Aside0.mk (below_step (qB HB) hb); clear BK129; clear HB; have BK129 := n0_; have HB := n1_; clear n0_ n1_; (try clear hb); (try clear hb2); (try clear hk); (try clear hi); obtain ⟨hcz67_0, hcz67_1, hcz67_2, hcz67_3, hcz67_4, hfz67_0, hfz67_1, hfz67_2, hfz67_3, hfz67_4⟩ := blk5 BK129))
              go_ret
              exact ⟨by first | rfl | (simp [errW_none, errW_some] <;> rfl) | (simp [*, errW_none, errW_some] <;> rfl), by repeat (first | (with_reducible first | exact HB.out | apply below_alloc | apply pw_below_drewN | apply below_drew1 | refine below_set ?_ GE129.out) | exact HB.out)⟩
            ·replace c56 := Bool.eq_false_iff.mpr c56
             subst c56
             have H1 : (some 0) = some r := by rw [if_neg (show ¬ (false = true) by decide)] at H; exact H
             clear H
             have H := H1
             clear H1
             obtain rfl := Option.some.inj H
             obtain ⟨hcz68_0, hcz68_1, hcz68_2, hcz68_3, hcz68_4, hfz68_0, hfz68_1, hfz68_2, hfz68_3, hfz68_4⟩ := blk5 BK129
             go_wp2_with (first | ((with_reducible refine gate_callee (f := 56) rfl ?_); refine goesL_ (some 103) rfl rfl Tryd.func56 (by kernel_rfl) rfl #[.agg #[.int .i64 a0_0, .string a0_1, .int .i64 a0_2, .slice A0_3 l0_3.length c0_3, .slice A0_4 l0_4.length c0_4]] rfl (by (try simp only [List.map_toArray, List.map_cons, List.map_nil]); first | done | rfl | (simp only [List.length_drop, List.length_take]; rfl)) ?_; (with_reducible refine (spec_l4Keys.calls kj16 a0_0 a0_1 a0_2 _ _ l0_3 _ _ l0_4 false _ (qC HR0_3 HB) HC0_3.out (qC HR0_4 HB) HC0_4.out A55.out).mono ?_); rintro e w69 ⟨rfl, hb⟩; refine ⟨_, rfl, ?_⟩; have n0_ := Aside0.mk (blk_below (qK BK129) hb); have n1_ := Aside0.mk (below_step (qB HB) hb); clear BK129; clear HB; have BK129 := n0_; have HB := n1_; clear n0_ n1_; (try clear hb); (try clear hb2); (try clear hk); (try clear hi)))
             go_ret
             exact ⟨by first | rfl | (simp [errW_none, errW_some] <;> rfl) | (simp [*, errW_none, errW_some] <;> rfl), by repeat (first | (with_reducible first | exact HB.out | apply below_alloc | apply pw_below_drewN | apply below_drew1 | refine below_set ?_ GE129.out) | exact HB.out)⟩
           ·rw [if_neg c54] at H
            have c54b0 : (a0_0 == 5) = false := beq_eq_false_iff_ne.mpr c54
            have c54b1 : (a0_0 != 5) = true := bne_iff_ne.mpr c54
            obtain rfl := Option.some.inj H
            obtain ⟨hcz70_0, hcz70_1, hcz70_2, hcz70_3, hcz70_4, hfz70_0, hfz70_1, hfz70_2, hfz70_3, hfz70_4⟩ := blk5 BK129
            go_wp2
            go_ret
            exact ⟨by first | rfl | (simp [errW_none, errW_some] <;> rfl) | (simp [*, errW_none, errW_some] <;> rfl), by repeat (first | (with_reducible first | exact HB.out | apply below_alloc | apply pw_below_drewN | apply below_drew1 | refine below_set ?_ GE129.out) | exact HB.out)⟩

end Go.Proofs.YtgcgkcchoghkaaaDoor.G

/- PValueOk -/
/-
  Values that are right, and their size; the laws of ValueOk and SizeOf.
-/
namespace Go.Proofs.YtgcgkcchoghkaaaDoor.G
open Go.RowKit Go.Proofs.YtgcgkcchoghkaaaDoorW.PrintWords Go.Proofs.YtgcgkcchoghkaaaDoorW.PrintLast Go.Proofs.YtgcgkcchoghkaaaDoorW.PrintMore
set_option linter.unusedVariables false
set_option linter.unusedSimpArgs false
def emp (s : ByteArray) : Bool := decide (s.toList = [])
def textB (s : ByteArray) : Bool := allN s.size (fun i => inB (bt s i) 32 126) && decide ((s.size : Int) ≤ 100)
theorem wbt (s : ByteArray) (i : Int) : wrap64 (bt s i) = bt s i := w64 (by have := bt_lo s i; omega) (by have := bt_hi s i; omega)
theorem l4Text_ev (s : ByteArray) (h : s.size ≤ 9223372036854775807) : Ev (fun k => spec_l4Text.f k s) (textB s) := by
  unfold spec_l4Text.f textB
  refine loop_all (g := fun k i => spec_l4Text.l0 k s i) s.size _ _ ?_ ?_ ?_
  · intro i hi hok r hr
    refine Ev.step (fun k => by rw [spec_l4Text.l0]) ?_
    simp only [wsucc hi h, wbt, l1In_f, Option.bind_some]
    exact ev_if_pos (by omega) (ev_if_pos (by omega) (ev_if_pos hok hr))
  · intro i hi hok
    refine Ev.step (fun k => by rw [spec_l4Text.l0]) ?_
    simp only [wbt, l1In_f, Option.bind_some]
    exact ev_if_pos (by omega) (ev_if_pos (by omega) (ev_if_neg (by rw [hok]; exact Bool.false_ne_true) (Ev.now _)))
  · exact Ev.step (fun k => by rw [spec_l4Text.l0]) (ev_if_neg (by omega) (Ev.now _))
theorem l4Keys_ev (x : IVal) (h : wfStrs x.f3) : Ev (fun k => spec_l4Keys.f k x.f0 x.f1 x.f2 x.f3 x.f4) (namsB x.f3 && ((x.f3.length : Int) == (x.f4.length : Int))) := by
  unfold spec_l4Keys.f namsB
  refine loop_all (g := fun k i => spec_l4Keys.l0 k i x.f0 x.f1 x.f2 x.f3 x.f4) x.f3.length _ _ ?_ ?_ ?_
  · intro i hi hok r hr
    refine Ev.step (fun k => by rw [spec_l4Keys.l0]) ?_
    simp only [wsucc hi h.1]
    refine ev_if_pos (by omega) (ev_if_pos (by omega) (Ev.bind (specNameOk_ev _ (wfStrs_at h hi)) (ev_if_pos (namOk_name hok) (ev_if (fun c => ?_) (fun c => hr)))))
    simp only [wpred (by omega : 0 < i) hi h.1]
    exact ev_if_pos (by omega) (ev_if_pos (by omega) (ev_if_pos (namOk_less hok (by omega)) hr))
  · intro i hi hok
    refine Ev.step (fun k => by rw [spec_l4Keys.l0]) ?_
    refine ev_if_pos (by omega) (ev_if_pos (by omega) (Ev.bind (specNameOk_ev _ (wfStrs_at h hi)) (ev_if (fun c0 => ?_) (fun _ => Ev.now _))))
    obtain ⟨h0, hl⟩ := namOk_false hok c0
    simp only [wpred h0 hi h.1]
    exact ev_if_pos (by omega) (ev_if_pos (by omega) (ev_if_pos (by omega) (ev_if_neg (by rw [hl]; simp) (Ev.now _))))
  · exact Ev.step (fun k => by rw [spec_l4Keys.l0]) (ev_if_neg (by omega) (Ev.now _))
/-- A shape that is right, by kinds. -/
def shB (x : IVal) : Bool :=
  if x.f0 = 1 then textB x.f1 && (x.f2 == 0 && ((x.f3.length : Int) == 0 && (x.f4.length : Int) == 0))
  else if x.f0 = 2 then emp x.f1 && ((x.f3.length : Int) == 0 && (x.f4.length : Int) == 0)
  else if x.f0 = 3 then emp x.f1 && (inB x.f2 0 1 && ((x.f3.length : Int) == 0 && (x.f4.length : Int) == 0))
  else if x.f0 = 4 then emp x.f1 && (x.f2 == 0 && (x.f3.length : Int) == 0)
  else if x.f0 = 5 then emp x.f1 && (x.f2 == 0 && (namsB x.f3 && (x.f3.length : Int) == (x.f4.length : Int)))
  else false
theorem implShapeOk_ev (x : IVal) (h1 : x.f1.size ≤ 9223372036854775807) (h3 : wfStrs x.f3) :
    Ev (fun k => impl_shapeOk.f k x.f0 x.f1 x.f2 x.f3 x.f4) (shB x && decide (x.f0 ≠ 5 ∨ (x.f3.length : Int) ≤ 300)) := by
  unfold impl_shapeOk.f shB
  by_cases c1 : x.f0 = 1
  · rw [if_pos c1, decide_eq_true (by omega : x.f0 ≠ 5 ∨ (x.f3.length : Int) ≤ 300), Bool.and_true, textB, Bool.and_assoc]
    refine ev_if_pos c1 ?_
    refine loop_all (g := fun k i => impl_shapeOk.l0 k (x.f2 == 0) ((x.f3.length : Int) == 0) ((x.f4.length : Int) == 0) x.f1.size i x.f0 x.f1 x.f2 x.f3 x.f4) x.f1.size _ _ ?_ ?_ ?_
    · intro i hi hok r hr
      refine Ev.step (fun k => by rw [impl_shapeOk.l0]) ?_
      simp only [wsucc hi h1, wbt, within_f, Option.bind_some]
      exact ev_if_pos (by omega) (ev_if_pos (by omega) (ev_if_pos (by omega) (ev_if_pos hok hr)))
    · intro i hi hok
      refine Ev.step (fun k => by rw [impl_shapeOk.l0]) ?_
      simp only [wbt, within_f, Option.bind_some]
      exact ev_if_pos (by omega) (ev_if_pos (by omega) (ev_if_pos (by omega) (ev_if_neg (by rw [hok]; exact Bool.false_ne_true) (Ev.now _))))
    · refine Ev.step (fun k => by rw [impl_shapeOk.l0]) (ev_if_neg (by omega) (ev_now ?_))
      generalize (x.f3.length : Int) = n3
      generalize (x.f4.length : Int) = n4
      cases (x.f2 == 0) <;> cases (n3 == 0) <;> by_cases c : (x.f1.size : Int) ≤ 100 <;> simp [c]
  · by_cases c2 : x.f0 = 2
    · rw [if_neg c1, if_pos c2, decide_eq_true (by omega : x.f0 ≠ 5 ∨ (x.f3.length : Int) ≤ 300), Bool.and_true]
      refine ev_if_neg c1 (ev_if_pos c2 (ev_now ?_))
      unfold emp
      generalize (x.f3.length : Int) = n3
      generalize (x.f4.length : Int) = n4
      by_cases d1 : x.f1.toList = [] <;> by_cases d2 : n3 = 0 <;> simp [d1, d2]
    · by_cases c3 : x.f0 = 3
      · rw [if_neg c1, if_neg c2, if_pos c3, decide_eq_true (by omega : x.f0 ≠ 5 ∨ (x.f3.length : Int) ≤ 300), Bool.and_true]
        simp only [within_f, Option.bind_some]
        refine ev_if_neg c1 (ev_if_neg c2 (ev_if_pos c3 (ev_now ?_)))
        unfold emp
        generalize (x.f3.length : Int) = n3
        generalize (x.f4.length : Int) = n4
        by_cases d1 : x.f1.toList = [] <;> by_cases d2 : n3 = 0 <;> cases inB x.f2 0 1 <;> simp [d1, d2]
      · by_cases c4 : x.f0 = 4
        · rw [if_neg c1, if_neg c2, if_neg c3, if_pos c4, decide_eq_true (by omega : x.f0 ≠ 5 ∨ (x.f3.length : Int) ≤ 300), Bool.and_true]
          refine ev_if_neg c1 (ev_if_neg c2 (ev_if_neg c3 (ev_if_pos c4 (ev_now ?_))))
          unfold emp
          generalize (x.f3.length : Int) = n3
          generalize (x.f4.length : Int) = n4
          by_cases d1 : x.f1.toList = [] <;> by_cases d2 : n3 = 0 <;> by_cases d3 : x.f2 = 0 <;> simp [d1, d2, d3]
        · by_cases c5 : x.f0 = 5
          · rw [if_neg c1, if_neg c2, if_neg c3, if_neg c4, if_pos c5]
            refine ev_if_neg c1 (ev_if_neg c2 (ev_if_neg c3 (ev_if_neg c4 (ev_if_pos c5 (Ev.bind (namesOk_ev x.f3 300 h3) (ev_now ?_))))))
            have e : decide (x.f0 ≠ 5 ∨ (x.f3.length : Int) ≤ 300) = decide ((x.f3.length : Int) ≤ 300) := by rw [decide_eq_decide]; omega
            rw [e]
            clear e
            unfold emp
            generalize (x.f3.length : Int) = n3
            generalize (x.f4.length : Int) = n4
            by_cases d1 : x.f1.toList = [] <;> by_cases d2 : n3 = n4 <;> by_cases d3 : x.f2 = 0 <;> cases namsB x.f3 <;> by_cases d4 : n3 ≤ 300 <;> (try subst d2) <;> simp [*]
          · rw [if_neg c1, if_neg c2, if_neg c3, if_neg c4, if_neg c5, Bool.false_and]
            exact ev_if_neg c1 (ev_if_neg c2 (ev_if_neg c3 (ev_if_neg c4 (ev_if_neg c5 (Ev.now _)))))
/-- Sizes of kids, added up; 0 where one is not right, or it is too much. -/
def sumL (m : IVal → Nat) : Nat → List IVal → Nat
  | n, [] => n
  | n, y :: ys => if m y = 0 ∨ n + m y > 300 then 0 else sumL m (n + m y) ys
theorem sumL_bad {m : IVal → Nat} {n : Nat} {y : IVal} {ys : List IVal} (h : m y = 0 ∨ n + m y > 300) : sumL m n (y :: ys) = 0 := by rw [sumL, if_pos h]
theorem sumL_good {m : IVal → Nat} {n : Nat} {y : IVal} {ys : List IVal} (h : ¬ (m y = 0 ∨ n + m y > 300)) : sumL m n (y :: ys) = sumL m (n + m y) ys := by rw [sumL, if_neg h]
def lookN : Nat → IVal → Nat
  | 0, _ => 0
  | r + 1, x => if shB x = true then sumL (lookN r) 1 x.f4 else 0
theorem sumL_bounds (m : IVal → Nat) : ∀ (ys : List IVal) (n : Nat), n ≤ 300 → sumL m n ys = 0 ∨ (n + ys.length ≤ sumL m n ys ∧ sumL m n ys ≤ 300)
  | [], n, h => .inr ⟨by simp [sumL], by simpa [sumL] using h⟩
  | y :: ys, n, h => by
    rw [sumL]
    by_cases c : m y = 0 ∨ n + m y > 300
    · rw [if_pos c]; exact .inl rfl
    · rw [if_neg c]
      rcases sumL_bounds m ys (n + m y) (by omega) with h1 | ⟨h1, h2⟩
      · exact .inl h1
      · refine .inr ⟨?_, h2⟩
        rw [List.length_cons]; omega
theorem lookN_le (r : Nat) (x : IVal) : lookN r x ≤ 300 := by
  cases r with
  | zero => simp [lookN]
  | succ r =>
    rw [lookN]
    split
    · rcases sumL_bounds (lookN r) x.f4 1 (by omega) with h | h <;> omega
    · omega
theorem l4Look_j1 (x : IVal) (n : Nat) (h1 : x.f1.size ≤ 9223372036854775807) (h3 : wfStrs x.f3) (b : Bool) (hb : b = ((x.f3.length : Int) == 0 && (x.f4.length : Int) == 0)) :
    Ev (fun k => spec_l4Look.j1 k n b x.f0 x.f1 x.f2 x.f3 x.f4) (if shB x = true then (n : Int) else 0) := by
  subst hb
  refine Ev.step (fun k => by rw [spec_l4Look.j1]) ?_
  unfold shB
  by_cases c1 : x.f0 = 1
  · refine ev_if_pos c1 ?_
    rw [if_pos c1]
    cases hb : ((x.f3.length : Int) == 0 && (x.f4.length : Int) == 0) with
    | false => exact ev_if_neg Bool.false_ne_true (ev_some (by simp))
    | true =>
      refine ev_if_pos rfl ?_
      by_cases c : x.f2 = 0
      · refine ev_if_pos c (Ev.bind (l4Text_ev _ h1) (ev_now ?_))
        rw [c]; cases textB x.f1 <;> simp
      · refine ev_if_neg c (ev_some ?_)
        simp [c]
  · by_cases c2 : x.f0 = 2
    · refine ev_if_neg c1 (ev_if_pos c2 (ev_now ?_))
      rw [if_neg c1, if_pos c2]
      unfold emp
      generalize (x.f3.length : Int) = n3
      generalize (x.f4.length : Int) = n4
      cases (n3 == 0 && n4 == 0) <;> by_cases d : x.f1.toList = [] <;> simp [d]
    · by_cases c3 : x.f0 = 3
      · refine ev_if_neg c1 (ev_if_neg c2 (ev_if_pos c3 (ev_now ?_)))
        simp only [l1In_f, Option.bind_some]
        rw [if_neg c1, if_neg c2, if_pos c3]
        unfold emp
        generalize (x.f3.length : Int) = n3
        generalize (x.f4.length : Int) = n4
        cases (n3 == 0 && n4 == 0) <;> by_cases d : x.f1.toList = [] <;> cases inB x.f2 0 1 <;> simp [d]
      · by_cases c4 : x.f0 = 4
        · refine ev_if_neg c1 (ev_if_neg c2 (ev_if_neg c3 (ev_if_pos c4 (ev_now ?_))))
          rw [if_neg c1, if_neg c2, if_neg c3, if_pos c4]
          unfold emp
          generalize (x.f3.length : Int) = n3
          generalize (x.f4.length : Int) = n4
          by_cases d : x.f1.toList = [] <;> by_cases d2 : n3 = 0 <;> by_cases d3 : x.f2 = 0 <;> simp [d, d2, d3]
        · by_cases c5 : x.f0 = 5
          · refine ev_if_neg c1 (ev_if_neg c2 (ev_if_neg c3 (ev_if_neg c4 (ev_if_pos c5 (Ev.bind (l4Keys_ev x h3) (ev_now ?_))))))
            rw [if_neg c1, if_neg c2, if_neg c3, if_neg c4, if_pos c5]
            unfold emp
            generalize (x.f3.length : Int) = n3
            generalize (x.f4.length : Int) = n4
            cases (namsB x.f3 && (n3 == n4)) <;> by_cases d : x.f1.toList = [] <;> by_cases d3 : x.f2 = 0 <;> simp [d, d3]
          · refine ev_if_neg c1 (ev_if_neg c2 (ev_if_neg c3 (ev_if_neg c4 (ev_if_neg c5 (ev_some ?_)))))
            rw [if_neg c1, if_neg c2, if_neg c3, if_neg c4, if_neg c5]; simp
theorem smI_parts {n : Nat} {x : IVal} (h : SmI n x) : ∃ m, n = m + 1 ∧ x.f1.size ≤ 1048576 ∧ wfStrs x.f3 ∧ x.f4.length ≤ 1048576 ∧ ∀ y ∈ x.f4, SmI m y := by
  cases n with
  | zero => rw [SmI] at h; exact h.elim
  | succ m => rw [SmI] at h; exact ⟨m, rfl, h.2.1, wfStrs_of h.2.2.1, h.2.2.2.1, h.2.2.2.2⟩
theorem l4Look_ev : ∀ (r : Nat) (n : Nat) (x : IVal), r ≤ 1000 → SmI n x → Ev (fun k => spec_l4Look.f k x.f0 x.f1 x.f2 x.f3 x.f4 r) ((lookN r x : Nat) : Int)
  | 0, n, x, _, h => Ev.step (fun k => by rw [spec_l4Look.f]) (ev_if_pos (by omega) (ev_some (by simp [lookN])))
  | r + 1, n, x, hr, h => by
    obtain ⟨m, rfl, h1, h3, hl, hk⟩ := smI_parts h
    have hx := h
    have loop : ∀ (d i a : Nat), i + d = x.f4.length → 1 ≤ a → a ≤ 300 → Ev (fun k => spec_l4Look.l0 k ((r + 1 : Nat) : Int) a i x.f0 x.f1 x.f2 x.f3 x.f4) (if shB x = true then ((sumL (lookN r) a (x.f4.drop i) : Nat) : Int) else 0) := by
      intro d
      induction d with
      | zero =>
        intro i a hi ha ha2
        rw [List.drop_of_length_le (by omega), sumL]
        refine Ev.step (fun k => by rw [spec_l4Look.l0]) (ev_if_neg (by omega) ?_)
        exact ev_if (fun c => l4Look_j1 x a (by omega) h3 _ (by rw [beq_iff_eq.2 c, Bool.true_and])) (fun c => l4Look_j1 x a (by omega) h3 _ (by rw [beq_eq_false_iff_ne.2 c, Bool.false_and]))
      | succ d ih =>
        intro i a hid ha ha2
        have hi : i < x.f4.length := by omega
        have hle := lookN_le r x.f4[i]
        refine Ev.step (fun k => by rw [spec_l4Look.l0]) (ev_if_pos (by omega) (ev_if_pos (by omega) ?_))
        have hw : wrap64 (((r + 1 : Nat) : Int) - 1) = (r : Int) := by rw [w64 (by omega) (by omega)]; omega
        simp only [rdIV hi, hw, wsucc hi (by omega : x.f4.length ≤ 9223372036854775807)]
        refine Ev.bind (l4Look_ev r m x.f4[i] (by omega) (hk _ (List.getElem_mem hi))) ?_
        have hw2 : wrap64 ((a : Int) + (lookN r x.f4[i] : Nat)) = ((a + lookN r x.f4[i] : Nat) : Int) := by rw [w64 (by omega) (by omega)]; omega
        rw [hw2, List.drop_eq_getElem_cons hi]
        by_cases c : lookN r x.f4[i] = 0
        · rw [sumL_bad (.inl c)]
          exact ev_if_pos (by omega) (ev_some (by simp))
        · refine ev_if_neg (by omega) ?_
          by_cases c2 : a + lookN r x.f4[i] > 300
          · rw [sumL_bad (.inr c2)]
            exact ev_if_pos (by omega) (ev_some (by simp))
          · rw [sumL_good (by omega)]
            exact ev_if_neg (by omega) (ih (i + 1) (a + lookN r x.f4[i]) (by omega) (by omega) (by omega))
    refine Ev.step (fun k => by rw [spec_l4Look.f]) (ev_if_neg (by omega) ?_)
    refine ev_rw (loop x.f4.length 0 1 (by omega) (by omega) (by omega)) ?_
    rw [List.drop_zero, lookN]
    by_cases c : shB x = true <;> simp [c]
def bigN (n : Nat) : Int := if n = 0 then 301 else n
theorem measured_ev : ∀ (r : Nat) (n : Nat) (x : IVal), r ≤ 1000 → SmI n x → Ev (fun k => impl_measured.f k x.f0 x.f1 x.f2 x.f3 x.f4 r) (bigN (lookN r x))
  | 0, n, x, _, h => Ev.step (fun k => by rw [impl_measured.f]) (ev_if_pos (by omega) (Ev.step (fun k => by rw [impl_measured.j0]) (ev_if_pos rfl (ev_some (by simp [lookN, bigN])))))
  | r + 1, n, x, hr, h => by
    obtain ⟨m, rfl, h1, h3, hl, hk⟩ := smI_parts h
    have loop : ∀ (d i a : Nat), i + d = x.f4.length → 1 ≤ a → a ≤ 300 → Ev (fun k => impl_measured.l0 k ((r + 1 : Nat) : Int) a x.f4 x.f4.length i) (bigN (sumL (lookN r) a (x.f4.drop i))) := by
      intro d
      induction d with
      | zero =>
        intro i a hi ha ha2
        rw [List.drop_of_length_le (by omega), sumL]
        exact Ev.step (fun k => by rw [impl_measured.l0]) (ev_if_neg (by omega) (ev_some (by unfold bigN; rw [if_neg (by omega)])))
      | succ d ih =>
        intro i a hid ha ha2
        have hi : i < x.f4.length := by omega
        have hle := lookN_le r x.f4[i]
        refine Ev.step (fun k => by rw [impl_measured.l0]) (ev_if_pos (by omega) (ev_if_pos (by omega) (ev_if_pos (by omega) ?_)))
        have hw : wrap64 (((r + 1 : Nat) : Int) - 1) = (r : Int) := by rw [w64 (by omega) (by omega)]; omega
        simp only [rdIV hi, hw, wsucc hi (by omega : x.f4.length ≤ 9223372036854775807)]
        refine Ev.bind (measured_ev r m x.f4[i] (by omega) (hk _ (List.getElem_mem hi))) ?_
        rw [List.drop_eq_getElem_cons hi]
        by_cases c : lookN r x.f4[i] = 0
        · rw [sumL_bad (.inl c), show bigN (lookN r x.f4[i]) = 301 from if_pos c, w64 (by omega) (by omega)]
          exact ev_if_pos (by omega) (Ev.now _)
        · have hw2 : wrap64 ((a : Int) + bigN (lookN r x.f4[i])) = ((a + lookN r x.f4[i] : Nat) : Int) := by unfold bigN; rw [if_neg c, w64 (by omega) (by omega)]; omega
          rw [hw2]
          by_cases c2 : a + lookN r x.f4[i] > 300
          · rw [sumL_bad (.inr c2)]
            exact ev_if_pos (by omega) (Ev.now _)
          · rw [sumL_good (by omega)]
            exact ev_if_neg (by omega) (ih (i + 1) (a + lookN r x.f4[i]) (by omega) (by omega) (by omega))
    refine Ev.step (fun k => by rw [impl_measured.f]) (ev_if_neg (by omega) (Ev.bind (implShapeOk_ev x (by omega) h3) ?_))
    refine Ev.step (fun k => by rw [impl_measured.j0]) ?_
    rw [lookN]
    by_cases c : shB x = true
    · rw [if_pos c, c, Bool.true_and]
      by_cases c2 : x.f0 ≠ 5 ∨ (x.f3.length : Int) ≤ 300
      · rw [decide_eq_true c2]
        refine ev_if_neg (by simp) (ev_rw (loop x.f4.length 0 1 (by omega) (by omega) (by omega)) ?_)
        rw [List.drop_zero]
      · rw [decide_eq_false c2]
        refine ev_if_pos rfl (ev_some ?_)
        have e5 : x.f0 = 5 := by omega
        have hlen : x.f3.length = x.f4.length := by
          unfold shB at c
          rw [if_neg (by omega), if_neg (by omega), if_neg (by omega), if_neg (by omega), if_pos e5] at c
          simp only [Bool.and_eq_true, beq_iff_eq] at c
          omega
        rcases sumL_bounds (lookN r) x.f4 1 (by omega) with h0 | h0
        · rw [h0]; rfl
        · omega
    · rw [if_neg c, Bool.eq_false_iff.2 c, Bool.false_and]
      exact ev_if_pos rfl (Ev.now _)
end Go.Proofs.YtgcgkcchoghkaaaDoor.G
