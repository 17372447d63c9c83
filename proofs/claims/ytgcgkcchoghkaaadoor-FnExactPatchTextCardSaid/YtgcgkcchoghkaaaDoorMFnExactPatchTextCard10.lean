import Derived.Test.YtgcgkcchoghkaaaDoorMFnExactPatchTextCard1
import Derived.Test.YtgcgkcchoghkaaaDoorMFnExactPatchTextCard2
import Derived.Test.YtgcgkcchoghkaaaDoorMFnExactPatchTextCard8
import Derived.Test.YtgcgkcchoghkaaaDoorMFnExactPatchTextCard9
import Derived.Test.YtgcgkcchoghkaaaDoorMFnExactPatchTextCard7
/- G11 -/
-- Laid by wip/g/gprint.py out of the translation, by the kit's print program. Lean checks it.
namespace Go.Proofs.YtgcgkcchoghkaaaDoor.G
open Go.RowKit Go.Proofs.YtgcgkcchoghkaaaDoorW.PrintWords Go.Proofs.YtgcgkcchoghkaaaDoorW.PrintLast Go.Proofs.YtgcgkcchoghkaaaDoorW.PrintMore
attribute [local go_sem] max2_int min2_int max_two min_two max_three min_three max_four min_four   -- for this text's walks alone
set_option linter.unusedVariables false
set_option linter.unusedSimpArgs false

/-! ### spec_l4Print: function 11 -/
mutual
def spec_l4Print.j0 : Nat → ByteArray → ByteArray → Int → ByteArray → Int → List ByteArray → List (S39) → Option (ByteArray)
 | 0, _, _, _, _, _, _, _ => none
 | k + 1, x3, x4, x171000, x171001, x171002, x171003, x171004 => spec_l4Print.l0 k x3 x4 0 x171000 x171001 x171002 x171003 x171004
def spec_l4Print.l0 : Nat → ByteArray → ByteArray → Int → Int → ByteArray → Int → List ByteArray → List (S39) → Option (ByteArray)
 | 0, _, _, _, _, _, _, _, _ => none
 | k + 1, x3, x4, x5, x171000, x171001, x171002, x171003, x171004 => if x5 < (x171004.length : Int) then (if x5 > 0 then (if x3.size + 1 ≤ 9223372036854775807 then (if x171000 = 5 then (if 0 ≤ x5 then (if x5 < (x171003.length : Int) then (if (x3 ++ (⟨#[44]⟩ : ByteArray)).size + (rdOf ByteArray.empty x171003 x5).size ≤ 9223372036854775807 then (if ((x3 ++ (⟨#[44]⟩ : ByteArray)) ++ (rdOf ByteArray.empty x171003 x5)).size + 1 ≤ 9223372036854775807 then ((spec_l4Print.f k ((rd_T39 x171004 x5).f0) ((rd_T39 x171004 x5).f1) ((rd_T39 x171004 x5).f2) ((rd_T39 x171004 x5).f3) ((rd_T39 x171004 x5).f4)).bind fun t175 => (if (((x3 ++ (⟨#[44]⟩ : ByteArray)) ++ (rdOf ByteArray.empty x171003 x5)) ++ (⟨#[58]⟩ : ByteArray)).size + t175.size ≤ 9223372036854775807 then (spec_l4Print.l0 k ((((x3 ++ (⟨#[44]⟩ : ByteArray)) ++ (rdOf ByteArray.empty x171003 x5)) ++ (⟨#[58]⟩ : ByteArray)) ++ t175) x4 (wrap64 (x5 + 1)) x171000 x171001 x171002 x171003 x171004) else (none))) else (none)) else (none)) else (none)) else (none)) else (if 0 ≤ x5 then ((spec_l4Print.f k ((rd_T39 x171004 x5).f0) ((rd_T39 x171004 x5).f1) ((rd_T39 x171004 x5).f2) ((rd_T39 x171004 x5).f3) ((rd_T39 x171004 x5).f4)).bind fun t177 => (if (x3 ++ (⟨#[44]⟩ : ByteArray)).size + t177.size ≤ 9223372036854775807 then (spec_l4Print.l0 k ((x3 ++ (⟨#[44]⟩ : ByteArray)) ++ t177) x4 (wrap64 (x5 + 1)) x171000 x171001 x171002 x171003 x171004) else (none))) else (none))) else (none)) else (if x171000 = 5 then (if 0 ≤ x5 then (if x5 < (x171003.length : Int) then (if x3.size + (rdOf ByteArray.empty x171003 x5).size ≤ 9223372036854775807 then (if (x3 ++ (rdOf ByteArray.empty x171003 x5)).size + 1 ≤ 9223372036854775807 then ((spec_l4Print.f k ((rd_T39 x171004 x5).f0) ((rd_T39 x171004 x5).f1) ((rd_T39 x171004 x5).f2) ((rd_T39 x171004 x5).f3) ((rd_T39 x171004 x5).f4)).bind fun t180 => (if ((x3 ++ (rdOf ByteArray.empty x171003 x5)) ++ (⟨#[58]⟩ : ByteArray)).size + t180.size ≤ 9223372036854775807 then (spec_l4Print.l0 k (((x3 ++ (rdOf ByteArray.empty x171003 x5)) ++ (⟨#[58]⟩ : ByteArray)) ++ t180) x4 (wrap64 (x5 + 1)) x171000 x171001 x171002 x171003 x171004) else (none))) else (none)) else (none)) else (none)) else (none)) else (if 0 ≤ x5 then ((spec_l4Print.f k ((rd_T39 x171004 x5).f0) ((rd_T39 x171004 x5).f1) ((rd_T39 x171004 x5).f2) ((rd_T39 x171004 x5).f3) ((rd_T39 x171004 x5).f4)).bind fun t182 => (if x3.size + t182.size ≤ 9223372036854775807 then (spec_l4Print.l0 k (x3 ++ t182) x4 (wrap64 (x5 + 1)) x171000 x171001 x171002 x171003 x171004) else (none))) else (none)))) else (if x3.size + x4.size ≤ 9223372036854775807 then (some (x3 ++ x4)) else (none))
def spec_l4Print.f : Nat → Int → ByteArray → Int → List ByteArray → List (S39) → Option (ByteArray)
 | 0, _, _, _, _, _ => none
 | k + 1, a0_0, a0_1, a0_2, l0_3, l0_4 => if a0_0 = 1 then ((spec_l4Quoted.f k a0_1).bind fun t171 => (some t171)) else (if a0_0 = 2 then ((spec_l4Int.f k a0_2).bind fun t172 => (some t172)) else (if a0_0 = 3 then (if a0_2 = 1 then (some (⟨#[116, 114, 117, 101]⟩ : ByteArray)) else (some (⟨#[102, 97, 108, 115, 101]⟩ : ByteArray))) else (if a0_0 = 5 then (spec_l4Print.j0 k (⟨#[123]⟩ : ByteArray) (⟨#[125]⟩ : ByteArray) a0_0 a0_1 a0_2 l0_3 l0_4) else (spec_l4Print.j0 k (⟨#[91]⟩ : ByteArray) (⟨#[93]⟩ : ByteArray) a0_0 a0_1 a0_2 l0_3 l0_4))))
end
set_option maxHeartbeats 8000000 in
set_option maxRecDepth 100000 in
theorem spec_l4Print.calls (k : Nat) : ∀ (a0_0 : Int) (a0_1 : ByteArray) (a0_2 : Int) (A0_3 : Option Addr) (c0_3 : Nat) (l0_3 : List ByteArray) (A0_4 : Option Addr) (c0_4 : Nat) (l0_4 : List (S39)) (r : ByteArray) (w : World) (hr0_3 : Kd.C Kd.string w A0_3 l0_3.length l0_3) (hc0_3 : l0_3.length ≤ c0_3) (hr0_4 : Kd.C k39 w A0_4 l0_4.length l0_4) (hc0_4 : l0_4.length ≤ c0_4) (h : spec_l4Print.f k a0_0 a0_1 a0_2 l0_3 l0_4 = some r),
  Calls Tryd.prog 11 #[.agg #[.int .i64 a0_0, .string a0_1, .int .i64 a0_2, .slice A0_3 l0_3.length c0_3, .slice A0_4 l0_4.length c0_4]] w fun e w' => e = .returned (.string r) ∧ Below w.heap.size w w' := by
 induction k using Nat.strongRecOn with
 | _ k ih =>
 intro a0_0 a0_1 a0_2 A0_3 c0_3 l0_3 A0_4 c0_4 l0_4 r w hr0_3 hc0_3 hr0_4 hc0_4 h
 cases k with
 | zero => exact absurd h (by simp [spec_l4Print.f])
 | succ k =>
 simp only [spec_l4Print.f] at h
 have hu39 := Tryd.underlying39
 have HR0_3 := Aside0.mk hr0_3
 have HC0_3 := Aside0.mk hc0_3
 clear hr0_3 hc0_3
 have HR0_4 := Aside0.mk hr0_4
 have HC0_4 := Aside0.mk hc0_4
 clear hr0_4 hc0_4
 have HB := Aside0.mk (Below.refl w.heap.size w)
 have H := h
 clear h
 by_cases c2 : a0_0 = 1
 ·rw [if_pos c2] at H
  have c2b0 : (a0_0 == 1) = true := beq_iff_eq.mpr c2
  have c2b1 : (a0_0 != 1) = false := bne_eq_false_iff_eq.mpr c2
  clear c2
  replace H := Option.bind_eq_some_iff.mp H
  obtain ⟨t171, A30, H⟩ := H
  try dsimp only at H
  have A3 := Aside0.mk A30
  clear A30
  obtain rfl := Option.some.inj H
  go_enter Tryd.func11, Tryd.ntmps11
  go_wp2_with (first | ((with_reducible refine gate_dst (N := 1) rfl ?_); refine box_event ?hg (N := 1) ?hd (cs := #[.int .i64 a0_0, .string a0_1, .int .i64 a0_2, .slice A0_3 l0_3.length c0_3, .slice A0_4 l0_4.length c0_4]) (t := 39) ?hr ?_; (case hd => rfl); (case hg => rfl); (case hr => go_simp); intro gb170 hg w4 hbox hb; have n0_ := Aside0.mk (below_step (qB HB) hb); have n1_ := Aside0.mk (hbox); have n2_ := Aside0.mk (qG HB hg); have n3_ := Aside0.mk (qG HB hg); clear HB; have HB := n0_; have BK170 := n1_; have GW170 := n2_; have GE170 := n3_; clear n0_ n1_ n2_ n3_; clear hb hbox hg; obtain ⟨hcz5_0, hcz5_1, hcz5_2, hcz5_3, hcz5_4, hfz5_0, hfz5_1, hfz5_2, hfz5_3, hfz5_4⟩ := blk5 BK170) | ((with_reducible refine gate_callee (f := 23) rfl ?_); refine goesL_ (some 12) rfl rfl Tryd.func23 (by kernel_rfl) rfl #[.string a0_1] rfl (by (try simp only [List.map_toArray, List.map_cons, List.map_nil]); first | done | rfl | (simp only [List.length_drop, List.length_take]; rfl)) ?_; (with_reducible refine (spec_l4Quoted.calls k a0_1 t171 _ A3.out).mono ?_); rintro e w6 ⟨rfl, hb⟩; refine ⟨_, rfl, ?_⟩; have n0_ := Aside0.mk (blk_below (qK BK170) hb); have n1_ := Aside0.mk (below_step (qB HB) hb); clear BK170; clear HB; have BK170 := n0_; have HB := n1_; clear n0_ n1_; (try clear hb); (try clear hb2); (try clear hk); (try clear hi)))
  go_ret
  exact ⟨by first | rfl | (simp [errW_none, errW_some] <;> rfl) | (simp [*, errW_none, errW_some] <;> rfl), by repeat (first | (with_reducible first | exact HB.out | apply below_alloc | apply pw_below_drewN | apply below_drew1 | refine below_set ?_ GE170.out) | exact HB.out)⟩
 ·rw [if_neg c2] at H
  have c2b0 : (a0_0 == 1) = false := beq_eq_false_iff_ne.mpr c2
  have c2b1 : (a0_0 != 1) = true := bne_iff_ne.mpr c2
  by_cases c7 : a0_0 = 2
  ·rw [if_pos c7] at H
   have c7b0 : (a0_0 == 2) = true := beq_iff_eq.mpr c7
   have c7b1 : (a0_0 != 2) = false := bne_eq_false_iff_eq.mpr c7
   clear c7
   replace H := Option.bind_eq_some_iff.mp H
   obtain ⟨t172, A80, H⟩ := H
   try dsimp only at H
   have A8 := Aside0.mk A80
   clear A80
   obtain rfl := Option.some.inj H
   go_enter Tryd.func11, Tryd.ntmps11
   go_wp2_with (first | ((with_reducible refine gate_dst (N := 1) rfl ?_); refine box_event ?hg (N := 1) ?hd (cs := #[.int .i64 a0_0, .string a0_1, .int .i64 a0_2, .slice A0_3 l0_3.length c0_3, .slice A0_4 l0_4.length c0_4]) (t := 39) ?hr ?_; (case hd => rfl); (case hg => rfl); (case hr => go_simp); intro gb170 hg w9 hbox hb; have n0_ := Aside0.mk (below_step (qB HB) hb); have n1_ := Aside0.mk (hbox); have n2_ := Aside0.mk (qG HB hg); have n3_ := Aside0.mk (qG HB hg); clear HB; have HB := n0_; have BK170 := n1_; have GW170 := n2_; have GE170 := n3_; clear n0_ n1_ n2_ n3_; clear hb hbox hg; obtain ⟨hcz10_0, hcz10_1, hcz10_2, hcz10_3, hcz10_4, hfz10_0, hfz10_1, hfz10_2, hfz10_3, hfz10_4⟩ := blk5 BK170) | ((with_reducible refine gate_callee (f := 24) rfl ?_); refine goesL_ (some 17) rfl rfl Tryd.func24 (by kernel_rfl) rfl #[.int .i64 a0_2] rfl (by (try simp only [List.map_toArray, List.map_cons, List.map_nil]); first | done | rfl | (simp only [List.length_drop, List.length_take]; rfl)) ?_; (with_reducible refine (spec_l4Int.calls k a0_2 t172 _ A8.out).mono ?_); rintro e w11 ⟨rfl, hb⟩; refine ⟨_, rfl, ?_⟩; have n0_ := Aside0.mk (blk_below (qK BK170) hb); have n1_ := Aside0.mk (below_step (qB HB) hb); clear BK170; clear HB; have BK170 := n0_; have HB := n1_; clear n0_ n1_; (try clear hb); (try clear hb2); (try clear hk); (try clear hi)))
   go_ret
   exact ⟨by first | rfl | (simp [errW_none, errW_some] <;> rfl) | (simp [*, errW_none, errW_some] <;> rfl), by repeat (first | (with_reducible first | exact HB.out | apply below_alloc | apply pw_below_drewN | apply below_drew1 | refine below_set ?_ GE170.out) | exact HB.out)⟩
  ·rw [if_neg c7] at H
   have c7b0 : (a0_0 == 2) = false := beq_eq_false_iff_ne.mpr c7
   have c7b1 : (a0_0 != 2) = true := bne_iff_ne.mpr c7
   by_cases c12 : a0_0 = 3
   ·rw [if_pos c12] at H
    have c12b0 : (a0_0 == 3) = true := beq_iff_eq.mpr c12
    have c12b1 : (a0_0 != 3) = false := bne_eq_false_iff_eq.mpr c12
    clear c12
    by_cases c13 : a0_2 = 1
    ·rw [if_pos c13] at H
     have c13b0 : (a0_2 == 1) = true := beq_iff_eq.mpr c13
     have c13b1 : (a0_2 != 1) = false := bne_eq_false_iff_eq.mpr c13
     clear c13
     obtain rfl := Option.some.inj H
     go_enter Tryd.func11, Tryd.ntmps11
     go_wp2_with (first | ((with_reducible refine gate_dst (N := 1) rfl ?_); refine box_event ?hg (N := 1) ?hd (cs := #[.int .i64 a0_0, .string a0_1, .int .i64 a0_2, .slice A0_3 l0_3.length c0_3, .slice A0_4 l0_4.length c0_4]) (t := 39) ?hr ?_; (case hd => rfl); (case hg => rfl); (case hr => go_simp); intro gb170 hg w14 hbox hb; have n0_ := Aside0.mk (below_step (qB HB) hb); have n1_ := Aside0.mk (hbox); have n2_ := Aside0.mk (qG HB hg); have n3_ := Aside0.mk (qG HB hg); clear HB; have HB := n0_; have BK170 := n1_; have GW170 := n2_; have GE170 := n3_; clear n0_ n1_ n2_ n3_; clear hb hbox hg; obtain ⟨hcz15_0, hcz15_1, hcz15_2, hcz15_3, hcz15_4, hfz15_0, hfz15_1, hfz15_2, hfz15_3, hfz15_4⟩ := blk5 BK170))
     go_ret
     exact ⟨by first | rfl | (simp [errW_none, errW_some] <;> rfl) | (simp [*, errW_none, errW_some] <;> rfl), by repeat (first | (with_reducible first | exact HB.out | apply below_alloc | apply pw_below_drewN | apply below_drew1 | refine below_set ?_ GE170.out) | exact HB.out)⟩
    ·rw [if_neg c13] at H
     have c13b0 : (a0_2 == 1) = false := beq_eq_false_iff_ne.mpr c13
     have c13b1 : (a0_2 != 1) = true := bne_iff_ne.mpr c13
     obtain rfl := Option.some.inj H
     go_enter Tryd.func11, Tryd.ntmps11
     go_wp2_with (first | ((with_reducible refine gate_dst (N := 1) rfl ?_); refine box_event ?hg (N := 1) ?hd (cs := #[.int .i64 a0_0, .string a0_1, .int .i64 a0_2, .slice A0_3 l0_3.length c0_3, .slice A0_4 l0_4.length c0_4]) (t := 39) ?hr ?_; (case hd => rfl); (case hg => rfl); (case hr => go_simp); intro gb170 hg w16 hbox hb; have n0_ := Aside0.mk (below_step (qB HB) hb); have n1_ := Aside0.mk (hbox); have n2_ := Aside0.mk (qG HB hg); have n3_ := Aside0.mk (qG HB hg); clear HB; have HB := n0_; have BK170 := n1_; have GW170 := n2_; have GE170 := n3_; clear n0_ n1_ n2_ n3_; clear hb hbox hg; obtain ⟨hcz17_0, hcz17_1, hcz17_2, hcz17_3, hcz17_4, hfz17_0, hfz17_1, hfz17_2, hfz17_3, hfz17_4⟩ := blk5 BK170))
     go_ret
     exact ⟨by first | rfl | (simp [errW_none, errW_some] <;> rfl) | (simp [*, errW_none, errW_some] <;> rfl), by repeat (first | (with_reducible first | exact HB.out | apply below_alloc | apply pw_below_drewN | apply below_drew1 | refine below_set ?_ GE170.out) | exact HB.out)⟩
   ·rw [if_neg c12] at H
    have c12b0 : (a0_0 == 3) = false := beq_eq_false_iff_ne.mpr c12
    have c12b1 : (a0_0 != 3) = true := bne_iff_ne.mpr c12
    have HC18 := Aside0.mk H
    clear H
    go_enter Tryd.func11, Tryd.ntmps11
    go_upto_if 25 with (first | ((with_reducible refine gate_dst (N := 1) rfl ?_); refine box_event ?hg (N := 1) ?hd (cs := #[.int .i64 a0_0, .string a0_1, .int .i64 a0_2, .slice A0_3 l0_3.length c0_3, .slice A0_4 l0_4.length c0_4]) (t := 39) ?hr ?_; (case hd => rfl); (case hg => rfl); (case hr => go_simp); intro gb170 hg w19 hbox hb; have n0_ := Aside0.mk (below_step (qB HB) hb); have n1_ := Aside0.mk (hbox); have n2_ := Aside0.mk (qG HB hg); have n3_ := Aside0.mk (qG HB hg); clear HB; have HB := n0_; have BK170 := n1_; have GW170 := n2_; have GE170 := n3_; clear n0_ n1_ n2_ n3_; clear hb hbox hg; obtain ⟨hcz20_0, hcz20_1, hcz20_2, hcz20_3, hcz20_4, hfz20_0, hfz20_1, hfz20_2, hfz20_3, hfz20_4⟩ := blk5 BK170))
    (try simp only [Act.put, List.setIfInBounds_toArray, List.set_cons_zero, List.set_cons_succ])
    go_cut [3, 4] (fun v3 v4 wc => ∃ (kq : Nat) (x3_17 : ByteArray) (x4_17 : ByteArray), v3 = .string x3_17 ∧ v4 = .string x4_17 ∧ Aside0 (spec_l4Print.j0 kq x3_17 x4_17 a0_0 a0_1 a0_2 l0_3 l0_4 = some r) ∧ Aside0 (kq ≤ k) ∧ Aside0 (wc.heap[gb170]? = some (.cells #[.int .i64 a0_0, .string a0_1, .int .i64 a0_2, (.slice A0_3 l0_3.length c0_3), (.slice A0_4 l0_4.length c0_4)] 39 (0, 0))) ∧ Aside0 (Below w.heap.size w wc))
    case first =>
     have H := HC18.out
     clear HC18
     by_cases c21 : a0_0 = 5
     ·rw [if_pos c21] at H
      have c21b0 : (a0_0 == 5) = true := beq_iff_eq.mpr c21
      have c21b1 : (a0_0 != 5) = false := bne_eq_false_iff_eq.mpr c21
      clear c21
      (first | rw [c21b0] | (simp only [i64_w, i32_w]; rw [c21b0]) | skip)
      have H' := Aside0.mk H
      clear H
      go_wp2
      go_meet
      case rel => exact ⟨_, ((⟨#[123]⟩ : ByteArray)), ((⟨#[125]⟩ : ByteArray)), (by first | rfl | (simp; done) | (simp [*]; done)), (by first | rfl | (simp; done) | (simp [*]; done)), H', ⟨by first | omega | exact Nat.le_refl _⟩, ⟨qK BK170⟩, ⟨qB HB⟩⟩
     ·rw [if_neg c21] at H
      have c21b0 : (a0_0 == 5) = false := beq_eq_false_iff_ne.mpr c21
      have c21b1 : (a0_0 != 5) = true := bne_iff_ne.mpr c21
      (first | rw [c21b0] | (simp only [i64_w, i32_w]; rw [c21b0]) | skip)
      have H' := Aside0.mk H
      clear H
      go_wp2
      go_meet
      case rel => exact ⟨_, ((⟨#[91]⟩ : ByteArray)), ((⟨#[93]⟩ : ByteArray)), (by first | rfl | (simp; done) | (simp [*]; done)), (by first | rfl | (simp; done) | (simp [*]; done)), H', ⟨by first | omega | exact Nat.le_refl _⟩, ⟨qK BK170⟩, ⟨qB HB⟩⟩
    case rest =>
     clear HC18
     try clear c1
     try clear c2
     try clear c2b0
     try clear c2b1
     try clear p2
     try clear c7
     try clear c7b0
     try clear c7b1
     try clear c11
     try clear c12
     try clear c12b0
     try clear c12b1
     try clear c13
     try clear c13b0
     try clear c13b1
     try clear c21
     try clear c21b0
     try clear c21b1
     try clear hcz10_0
     try clear hcz10_1
     try clear hcz10_2
     try clear hcz10_3
     try clear hcz10_4
     try clear hcz15_0
     try clear hcz15_1
     try clear hcz15_2
     try clear hcz15_3
     try clear hcz15_4
     try clear hcz17_0
     try clear hcz17_1
     try clear hcz17_2
     try clear hcz17_3
     try clear hcz17_4
     try clear hcz20_0
     try clear hcz20_1
     try clear hcz20_2
     try clear hcz20_3
     try clear hcz20_4
     try clear hcz5_0
     try clear hcz5_1
     try clear hcz5_2
     try clear hcz5_3
     try clear hcz5_4
     try clear hfz10_0
     try clear hfz10_1
     try clear hfz10_2
     try clear hfz10_3
     try clear hfz10_4
     try clear hfz15_0
     try clear hfz15_1
     try clear hfz15_2
     try clear hfz15_3
     try clear hfz15_4
     try clear hfz17_0
     try clear hfz17_1
     try clear hfz17_2
     try clear hfz17_3
     try clear hfz17_4
     try clear hfz20_0
     try clear hfz20_1
     try clear hfz20_2
     try clear hfz20_3
     try clear hfz20_4
     try clear hfz5_0
     try clear hfz5_1
     try clear hfz5_2
     try clear hfz5_3
     try clear hfz5_4
     obtain ⟨kq, x3_17, x4_17, rfl, rfl, HA, HJ17, BK170, HB⟩ := hcut
     cases kq with
     | zero => exact absurd HA.out (by simp [spec_l4Print.j0])
     | succ kj17 =>
      have H := HA.out
      clear HA
      simp only [spec_l4Print.j0] at H
      have H' := Aside0.mk H
      clear H
      go_wp2
      go_loopg [3, 5] kj17 (fun kq v3 v5 w' => ∃ (x3_2 : ByteArray) (x5_2 : Int), v3 = .string x3_2 ∧ v5 = .int .i64 x5_2 ∧ Aside0 (spec_l4Print.l0 kq x3_2 x4_17 x5_2 a0_0 a0_1 a0_2 l0_3 l0_4 = some r) ∧ Aside0 (kq ≤ kj17) ∧ Aside0 (w'.heap[gb170]? = some (.cells #[.int .i64 a0_0, .string a0_1, .int .i64 a0_2, (.slice A0_3 l0_3.length c0_3), (.slice A0_4 l0_4.length c0_4)] 39 (0, 0))) ∧ Aside0 (Below w.heap.size w w'))
      case atStart => exact ⟨(x3_17), (0), (by first | rfl | (simp; done) | (simp [*]; done)), (by first | rfl | (simp; done) | (simp [*]; done)), H', ⟨Nat.le_refl _⟩, ⟨qK BK170⟩, ⟨qB HB⟩⟩
      case round =>
       clear H'
       try clear c1
       try clear c2
       try clear c2b0
       try clear c2b1
       try clear p2
       try clear c7
       try clear c7b0
       try clear c7b1
       try clear c11
       try clear c12
       try clear c12b0
       try clear c12b1
       try clear c13
       try clear c13b0
       try clear c13b1
       try clear c21
       try clear c21b0
       try clear c21b1
       try clear hcz10_0
       try clear hcz10_1
       try clear hcz10_2
       try clear hcz10_3
       try clear hcz10_4
       try clear hcz15_0
       try clear hcz15_1
       try clear hcz15_2
       try clear hcz15_3
       try clear hcz15_4
       try clear hcz17_0
       try clear hcz17_1
       try clear hcz17_2
       try clear hcz17_3
       try clear hcz17_4
       try clear hcz20_0
       try clear hcz20_1
       try clear hcz20_2
       try clear hcz20_3
       try clear hcz20_4
       try clear hcz5_0
       try clear hcz5_1
       try clear hcz5_2
       try clear hcz5_3
       try clear hcz5_4
       try clear hfz10_0
       try clear hfz10_1
       try clear hfz10_2
       try clear hfz10_3
       try clear hfz10_4
       try clear hfz15_0
       try clear hfz15_1
       try clear hfz15_2
       try clear hfz15_3
       try clear hfz15_4
       try clear hfz17_0
       try clear hfz17_1
       try clear hfz17_2
       try clear hfz17_3
       try clear hfz17_4
       try clear hfz20_0
       try clear hfz20_1
       try clear hfz20_2
       try clear hfz20_3
       try clear hfz20_4
       try clear hfz5_0
       try clear hfz5_1
       try clear hfz5_2
       try clear hfz5_3
       try clear hfz5_4
       try clear p2
       obtain ⟨x3_2, x5_2, rfl, rfl, HA, HK2, BK170, HB⟩ := hrel
       cases gk with
       | zero => exact absurd HA.out (by simp [spec_l4Print.l0])
       | succ k2 =>
        have H := HA.out
        clear HA
        simp only [spec_l4Print.l0] at H
        by_cases c22 : x5_2 < (l0_4.length : Int)
        ·rw [if_pos c22] at H
         have c22b0 : decide (x5_2 < (l0_4.length : Int)) = true := decide_eq_true c22
         clear c22
         by_cases c23 : x5_2 > 0
         ·rw [if_pos c23] at H
          have c23b0 : decide (0 < x5_2) = true := decide_eq_true c23
          clear c23
          by_cases c24 : x3_2.size + 1 ≤ 9223372036854775807
          ·rw [if_pos c24] at H
           have c24b0 := eq_true c24
           have c24b1 : decide (x3_2.size + 1 ≤ 9223372036854775807) = true := decide_eq_true c24
           try have c24b2 : (9223372036854775807 < x3_2.size + 1) = False := eq_false (Nat.not_lt.2 c24)
           by_cases c25 : a0_0 = 5
           ·rw [if_pos c25] at H
            have c25b0 : (a0_0 == 5) = true := beq_iff_eq.mpr c25
            have c25b1 : (a0_0 != 5) = false := bne_eq_false_iff_eq.mpr c25
            clear c25
            by_cases c26 : 0 ≤ x5_2
            ·rw [if_pos c26] at H
             have c26b0 : decide (0 ≤ x5_2) = true := decide_eq_true c26
             clear c26
             by_cases c27 : x5_2 < (l0_3.length : Int)
             ·rw [if_pos c27] at H
              have c27b0 : decide (x5_2 < (l0_3.length : Int)) = true := decide_eq_true c27
              clear c27
              by_cases c28 : (x3_2 ++ (⟨#[44]⟩ : ByteArray)).size + (rdOf ByteArray.empty l0_3 x5_2).size ≤ 9223372036854775807
              ·rw [if_pos c28] at H
               have c28b0 := eq_true c28
               have c28b1 : decide ((x3_2 ++ (⟨#[44]⟩ : ByteArray)).size + (rdOf ByteArray.empty l0_3 x5_2).size ≤ 9223372036854775807) = true := decide_eq_true c28
               try have c28b2 : (9223372036854775807 < (x3_2 ++ (⟨#[44]⟩ : ByteArray)).size + (rdOf ByteArray.empty l0_3 x5_2).size) = False := eq_false (Nat.not_lt.2 c28)
               have c28m : x3_2.size + 1 + (rdOf ByteArray.empty l0_3 x5_2).size ≤ 9223372036854775807 := by have h_ := c28; simp only [ByteArray.size_append] at h_; exact h_
               have c28m0 := eq_true c28m
               have c28m1 : decide (x3_2.size + 1 + (rdOf ByteArray.empty l0_3 x5_2).size ≤ 9223372036854775807) = true := decide_eq_true c28m
               have c28m2 : (9223372036854775807 < x3_2.size + 1 + (rdOf ByteArray.empty l0_3 x5_2).size) = False := eq_false (Nat.not_lt.2 c28m)
               by_cases c29 : ((x3_2 ++ (⟨#[44]⟩ : ByteArray)) ++ (rdOf ByteArray.empty l0_3 x5_2)).size + 1 ≤ 9223372036854775807
               ·rw [if_pos c29] at H
                have c29b0 := eq_true c29
                have c29b1 : decide (((x3_2 ++ (⟨#[44]⟩ : ByteArray)) ++ (rdOf ByteArray.empty l0_3 x5_2)).size + 1 ≤ 9223372036854775807) = true := decide_eq_true c29
                try have c29b2 : (9223372036854775807 < ((x3_2 ++ (⟨#[44]⟩ : ByteArray)) ++ (rdOf ByteArray.empty l0_3 x5_2)).size + 1) = False := eq_false (Nat.not_lt.2 c29)
                have c29z0 : ((x3_2 ++ (⟨#[44]⟩ : ByteArray)) ++ (rdOf ByteArray.empty l0_3 x5_2)).size < 9223372036854775807 := by have h_ := c29; simp only [ByteArray.size_append] at h_ ⊢; first | omega | (simp only [ByteArray.size] at h_ ⊢; simp at h_ ⊢; omega)
                have c29z0a := eq_true c29z0
                have c29z0b := decide_eq_true c29z0
                have c29z0c : (9223372036854775807 ≤ ((x3_2 ++ (⟨#[44]⟩ : ByteArray)) ++ (rdOf ByteArray.empty l0_3 x5_2)).size) = False := eq_false (by omega)
                have c29z1 : x3_2.size + 1 + (rdOf ByteArray.empty l0_3 x5_2).size < 9223372036854775807 := by have h_ := c29; simp only [ByteArray.size_append] at h_ ⊢; first | omega | (simp only [ByteArray.size] at h_ ⊢; simp at h_ ⊢; omega)
                have c29z1a := eq_true c29z1
                have c29z1b := decide_eq_true c29z1
                have c29z1c : (9223372036854775807 ≤ x3_2.size + 1 + (rdOf ByteArray.empty l0_3 x5_2).size) = False := eq_false (by omega)
                have c29z2 : x3_2.size + 1 + (rdOf ByteArray.empty l0_3 x5_2).size + 1 ≤ 9223372036854775807 := by have h_ := c29; simp only [ByteArray.size_append] at h_ ⊢; first | omega | (simp only [ByteArray.size] at h_ ⊢; simp at h_ ⊢; omega)
                have c29z2a := eq_true c29z2
                have c29z2b := decide_eq_true c29z2
                have c29z2c : (9223372036854775807 < x3_2.size + 1 + (rdOf ByteArray.empty l0_3 x5_2).size + 1) = False := eq_false (by omega)
                have c29m : x3_2.size + 1 + (rdOf ByteArray.empty l0_3 x5_2).size + 1 ≤ 9223372036854775807 := by have h_ := c29; simp only [ByteArray.size_append] at h_; exact h_
                have c29m0 := eq_true c29m
                have c29m1 : decide (x3_2.size + 1 + (rdOf ByteArray.empty l0_3 x5_2).size + 1 ≤ 9223372036854775807) = true := decide_eq_true c29m
                have c29m2 : (9223372036854775807 < x3_2.size + 1 + (rdOf ByteArray.empty l0_3 x5_2).size + 1) = False := eq_false (Nat.not_lt.2 c29m)
                replace H := Option.bind_eq_some_iff.mp H
                obtain ⟨t175, A300, H⟩ := H
                try dsimp only at H
                have A30 := Aside0.mk A300
                clear A300
                by_cases c31 : (((x3_2 ++ (⟨#[44]⟩ : ByteArray)) ++ (rdOf ByteArray.empty l0_3 x5_2)) ++ (⟨#[58]⟩ : ByteArray)).size + t175.size ≤ 9223372036854775807
                ·rw [if_pos c31] at H
                 have c31b0 := eq_true c31
                 have c31b1 : decide ((((x3_2 ++ (⟨#[44]⟩ : ByteArray)) ++ (rdOf ByteArray.empty l0_3 x5_2)) ++ (⟨#[58]⟩ : ByteArray)).size + t175.size ≤ 9223372036854775807) = true := decide_eq_true c31
                 try have c31b2 : (9223372036854775807 < (((x3_2 ++ (⟨#[44]⟩ : ByteArray)) ++ (rdOf ByteArray.empty l0_3 x5_2)) ++ (⟨#[58]⟩ : ByteArray)).size + t175.size) = False := eq_false (Nat.not_lt.2 c31)
                 have c31m : x3_2.size + 1 + (rdOf ByteArray.empty l0_3 x5_2).size + 1 + t175.size ≤ 9223372036854775807 := by have h_ := c31; simp only [ByteArray.size_append] at h_; exact h_
                 have c31m0 := eq_true c31m
                 have c31m1 : decide (x3_2.size + 1 + (rdOf ByteArray.empty l0_3 x5_2).size + 1 + t175.size ≤ 9223372036854775807) = true := decide_eq_true c31m
                 have c31m2 : (9223372036854775807 < x3_2.size + 1 + (rdOf ByteArray.empty l0_3 x5_2).size + 1 + t175.size) = False := eq_false (Nat.not_lt.2 c31m)
                 have H' := Aside0.mk H
                 clear H
                 obtain ⟨hcz32_0, hcz32_1, hcz32_2, hcz32_3, hcz32_4, hfz32_0, hfz32_1, hfz32_2, hfz32_3, hfz32_4⟩ := blk5 BK170
                 have p173 : 0 ≤ (x5_2 : Int) := of_decide_eq_true (by first | (with_reducible assumption) | assumption)
                 have q173 : x5_2 < (l0_3.length : Int) := of_decide_eq_true (by first | (with_reducible assumption) | assumption)
                 obtain ⟨ad173, e173, hx173_0⟩ := Kd.at_string HR0_3.out x5_2 p173 q173
                 cases e173
                 replace hx173_0 := (HB.out.cell (World.block_lt_of_cell? w _ hx173_0)).trans hx173_0
                 replace p173 := eq_true p173
                 replace q173 := eq_true q173
                 have p174 : 0 ≤ (x5_2 : Int) := of_decide_eq_true (by first | (with_reducible assumption) | assumption)
                 have q174 : x5_2 < (l0_4.length : Int) := of_decide_eq_true (by first | (with_reducible assumption) | assumption)
                 obtain ⟨ad174, A174_3, c174_3, A174_4, c174_4, e174, hx174_0, hx174_1, hx174_2, hx174_3, hx174_4, hl174_3, hi174_3, hl174_4, hi174_4⟩ := at_T39 HR0_4.out x5_2 p174 q174
                 cases e174
                 replace hx174_0 := (HB.out.cell (World.block_lt_of_cell? w _ hx174_0)).trans hx174_0
                 replace hx174_1 := (HB.out.cell (World.block_lt_of_cell? w _ hx174_1)).trans hx174_1
                 replace hx174_2 := (HB.out.cell (World.block_lt_of_cell? w _ hx174_2)).trans hx174_2
                 replace hx174_3 := (HB.out.cell (World.block_lt_of_cell? w _ hx174_3)).trans hx174_3
                 replace hx174_4 := (HB.out.cell (World.block_lt_of_cell? w _ hx174_4)).trans hx174_4
                 have HR174_3 := Aside0.mk hi174_3
                 have HC174_3 := Aside0.mk hl174_3
                 clear hi174_3 hl174_3
                 have HR174_4 := Aside0.mk hi174_4
                 have HC174_4 := Aside0.mk hl174_4
                 clear hi174_4 hl174_4
                 replace p174 := eq_true p174
                 replace q174 := eq_true q174
                 go_wp2_with (first | ((with_reducible refine gate_callee (f := 11) rfl ?_); refine goesL_ (some 54) rfl rfl Tryd.func11 (by kernel_rfl) rfl #[.agg #[.int .i64 ((rd_T39 l0_4 x5_2).f0), .string ((rd_T39 l0_4 x5_2).f1), .int .i64 ((rd_T39 l0_4 x5_2).f2), .slice A174_3 ((rd_T39 l0_4 x5_2).f3).length c174_3, .slice A174_4 ((rd_T39 l0_4 x5_2).f4).length c174_4]] rfl (by (try simp only [List.map_toArray, List.map_cons, List.map_nil]); first | done | rfl | (simp only [List.length_drop, List.length_take]; rfl)) ?_; (with_reducible refine (ih k2 (by have := HJ17.out; have := HK2.out; omega) ((rd_T39 l0_4 x5_2).f0) ((rd_T39 l0_4 x5_2).f1) ((rd_T39 l0_4 x5_2).f2) _ _ ((rd_T39 l0_4 x5_2).f3) _ _ ((rd_T39 l0_4 x5_2).f4) t175 _ (qC HR174_3 HB) HC174_3.out (qC HR174_4 HB) HC174_4.out A30.out).mono ?_); rintro e w33 ⟨rfl, hb⟩; refine ⟨_, rfl, ?_⟩; have n0_ := Aside0.mk (blk_below (qK BK170) hb); have n1_ := Aside0.mk (below_step (qB HB) hb); clear BK170; clear HB; have BK170 := n0_; have HB := n1_; clear n0_ n1_; (try clear hb); (try clear hb2); (try clear hk); (try clear hi)))
                 go_roundg k2
                 case measure => have := HJ17.out; have := HK2.out; omega
                 case rel => exact ⟨((((x3_2 ++ (⟨#[44]⟩ : ByteArray)) ++ (rdOf ByteArray.empty l0_3 x5_2)) ++ (⟨#[58]⟩ : ByteArray)) ++ t175), (wrap64 (x5_2 + 1)), (by first | rfl | (simp; done) | (simp [*]; done)), (by first | rfl | (simp; done) | (simp [*]; done)), H', ⟨by have := HJ17.out; have := HK2.out; omega⟩, ⟨qK BK170⟩, ⟨qB HB⟩⟩
                ·rw [if_neg c31] at H
                 exact absurd H (by simp)
               ·rw [if_neg c29] at H
                exact absurd H (by simp)
              ·rw [if_neg c28] at H
               exact absurd H (by simp)
             ·rw [if_neg c27] at H
              exact absurd H (by simp)
            ·rw [if_neg c26] at H
             exact absurd H (by simp)
           ·rw [if_neg c25] at H
            have c25b0 : (a0_0 == 5) = false := beq_eq_false_iff_ne.mpr c25
            have c25b1 : (a0_0 != 5) = true := bne_iff_ne.mpr c25
            by_cases c34 : 0 ≤ x5_2
            ·rw [if_pos c34] at H
             have c34b0 : decide (0 ≤ x5_2) = true := decide_eq_true c34
             clear c34
             replace H := Option.bind_eq_some_iff.mp H
             obtain ⟨t177, A350, H⟩ := H
             try dsimp only at H
             have A35 := Aside0.mk A350
             clear A350
             by_cases c36 : (x3_2 ++ (⟨#[44]⟩ : ByteArray)).size + t177.size ≤ 9223372036854775807
             ·rw [if_pos c36] at H
              have c36b0 := eq_true c36
              have c36b1 : decide ((x3_2 ++ (⟨#[44]⟩ : ByteArray)).size + t177.size ≤ 9223372036854775807) = true := decide_eq_true c36
              try have c36b2 : (9223372036854775807 < (x3_2 ++ (⟨#[44]⟩ : ByteArray)).size + t177.size) = False := eq_false (Nat.not_lt.2 c36)
              have c36m : x3_2.size + 1 + t177.size ≤ 9223372036854775807 := by have h_ := c36; simp only [ByteArray.size_append] at h_; exact h_
              have c36m0 := eq_true c36m
              have c36m1 : decide (x3_2.size + 1 + t177.size ≤ 9223372036854775807) = true := decide_eq_true c36m
              have c36m2 : (9223372036854775807 < x3_2.size + 1 + t177.size) = False := eq_false (Nat.not_lt.2 c36m)
              have H' := Aside0.mk H
              clear H
              obtain ⟨hcz37_0, hcz37_1, hcz37_2, hcz37_3, hcz37_4, hfz37_0, hfz37_1, hfz37_2, hfz37_3, hfz37_4⟩ := blk5 BK170
              have p176 : 0 ≤ (x5_2 : Int) := of_decide_eq_true (by first | (with_reducible assumption) | assumption)
              have q176 : x5_2 < (l0_4.length : Int) := of_decide_eq_true (by first | (with_reducible assumption) | assumption)
              obtain ⟨ad176, A176_3, c176_3, A176_4, c176_4, e176, hx176_0, hx176_1, hx176_2, hx176_3, hx176_4, hl176_3, hi176_3, hl176_4, hi176_4⟩ := at_T39 HR0_4.out x5_2 p176 q176
              cases e176
              replace hx176_0 := (HB.out.cell (World.block_lt_of_cell? w _ hx176_0)).trans hx176_0
              replace hx176_1 := (HB.out.cell (World.block_lt_of_cell? w _ hx176_1)).trans hx176_1
              replace hx176_2 := (HB.out.cell (World.block_lt_of_cell? w _ hx176_2)).trans hx176_2
              replace hx176_3 := (HB.out.cell (World.block_lt_of_cell? w _ hx176_3)).trans hx176_3
              replace hx176_4 := (HB.out.cell (World.block_lt_of_cell? w _ hx176_4)).trans hx176_4
              have HR176_3 := Aside0.mk hi176_3
              have HC176_3 := Aside0.mk hl176_3
              clear hi176_3 hl176_3
              have HR176_4 := Aside0.mk hi176_4
              have HC176_4 := Aside0.mk hl176_4
              clear hi176_4 hl176_4
              replace p176 := eq_true p176
              replace q176 := eq_true q176
              go_wp2_with (first | ((with_reducible refine gate_callee (f := 11) rfl ?_); refine goesL_ (some 54) rfl rfl Tryd.func11 (by kernel_rfl) rfl #[.agg #[.int .i64 ((rd_T39 l0_4 x5_2).f0), .string ((rd_T39 l0_4 x5_2).f1), .int .i64 ((rd_T39 l0_4 x5_2).f2), .slice A176_3 ((rd_T39 l0_4 x5_2).f3).length c176_3, .slice A176_4 ((rd_T39 l0_4 x5_2).f4).length c176_4]] rfl (by (try simp only [List.map_toArray, List.map_cons, List.map_nil]); first | done | rfl | (simp only [List.length_drop, List.length_take]; rfl)) ?_; (with_reducible refine (ih k2 (by have := HJ17.out; have := HK2.out; omega) ((rd_T39 l0_4 x5_2).f0) ((rd_T39 l0_4 x5_2).f1) ((rd_T39 l0_4 x5_2).f2) _ _ ((rd_T39 l0_4 x5_2).f3) _ _ ((rd_T39 l0_4 x5_2).f4) t177 _ (qC HR176_3 HB) HC176_3.out (qC HR176_4 HB) HC176_4.out A35.out).mono ?_); rintro e w38 ⟨rfl, hb⟩; refine ⟨_, rfl, ?_⟩; have n0_ := Aside0.mk (blk_below (qK BK170) hb); have n1_ := Aside0.mk (below_step (qB HB) hb); clear BK170; clear HB; have BK170 := n0_; have HB := n1_; clear n0_ n1_; (try clear hb); (try clear hb2); (try clear hk); (try clear hi)))
              go_roundg k2
              case measure => have := HJ17.out; have := HK2.out; omega
              case rel => exact ⟨((x3_2 ++ (⟨#[44]⟩ : ByteArray)) ++ t177), (wrap64 (x5_2 + 1)), (by first | rfl | (simp; done) | (simp [*]; done)), (by first | rfl | (simp; done) | (simp [*]; done)), H', ⟨by have := HJ17.out; have := HK2.out; omega⟩, ⟨qK BK170⟩, ⟨qB HB⟩⟩
             ·rw [if_neg c36] at H
              exact absurd H (by simp)
            ·rw [if_neg c34] at H
             exact absurd H (by simp)
          ·rw [if_neg c24] at H
           exact absurd H (by simp)
         ·rw [if_neg c23] at H
          have c23b0 : decide (0 < x5_2) = false := decide_eq_false c23
          clear c23
          by_cases c39 : a0_0 = 5
          ·rw [if_pos c39] at H
           have c39b0 : (a0_0 == 5) = true := beq_iff_eq.mpr c39
           have c39b1 : (a0_0 != 5) = false := bne_eq_false_iff_eq.mpr c39
           clear c39
           by_cases c40 : 0 ≤ x5_2
           ·rw [if_pos c40] at H
            have c40b0 : decide (0 ≤ x5_2) = true := decide_eq_true c40
            clear c40
            by_cases c41 : x5_2 < (l0_3.length : Int)
            ·rw [if_pos c41] at H
             have c41b0 : decide (x5_2 < (l0_3.length : Int)) = true := decide_eq_true c41
             clear c41
             by_cases c42 : x3_2.size + (rdOf ByteArray.empty l0_3 x5_2).size ≤ 9223372036854775807
             ·rw [if_pos c42] at H
              have c42b0 := eq_true c42
              have c42b1 : decide (x3_2.size + (rdOf ByteArray.empty l0_3 x5_2).size ≤ 9223372036854775807) = true := decide_eq_true c42
              try have c42b2 : (9223372036854775807 < x3_2.size + (rdOf ByteArray.empty l0_3 x5_2).size) = False := eq_false (Nat.not_lt.2 c42)
              by_cases c43 : (x3_2 ++ (rdOf ByteArray.empty l0_3 x5_2)).size + 1 ≤ 9223372036854775807
              ·rw [if_pos c43] at H
               have c43b0 := eq_true c43
               have c43b1 : decide ((x3_2 ++ (rdOf ByteArray.empty l0_3 x5_2)).size + 1 ≤ 9223372036854775807) = true := decide_eq_true c43
               try have c43b2 : (9223372036854775807 < (x3_2 ++ (rdOf ByteArray.empty l0_3 x5_2)).size + 1) = False := eq_false (Nat.not_lt.2 c43)
               have c43z0 : (x3_2 ++ (rdOf ByteArray.empty l0_3 x5_2)).size < 9223372036854775807 := by have h_ := c43; simp only [ByteArray.size_append] at h_ ⊢; first | omega | (simp only [ByteArray.size] at h_ ⊢; simp at h_ ⊢; omega)
               have c43z0a := eq_true c43z0
               have c43z0b := decide_eq_true c43z0
               have c43z0c : (9223372036854775807 ≤ (x3_2 ++ (rdOf ByteArray.empty l0_3 x5_2)).size) = False := eq_false (by omega)
               have c43z1 : x3_2.size + (rdOf ByteArray.empty l0_3 x5_2).size < 9223372036854775807 := by have h_ := c43; simp only [ByteArray.size_append] at h_ ⊢; first | omega | (simp only [ByteArray.size] at h_ ⊢; simp at h_ ⊢; omega)
               have c43z1a := eq_true c43z1
               have c43z1b := decide_eq_true c43z1
               have c43z1c : (9223372036854775807 ≤ x3_2.size + (rdOf ByteArray.empty l0_3 x5_2).size) = False := eq_false (by omega)
               have c43z2 : x3_2.size + (rdOf ByteArray.empty l0_3 x5_2).size + 1 ≤ 9223372036854775807 := by have h_ := c43; simp only [ByteArray.size_append] at h_ ⊢; first | omega | (simp only [ByteArray.size] at h_ ⊢; simp at h_ ⊢; omega)
               have c43z2a := eq_true c43z2
               have c43z2b := decide_eq_true c43z2
               have c43z2c : (9223372036854775807 < x3_2.size + (rdOf ByteArray.empty l0_3 x5_2).size + 1) = False := eq_false (by omega)
               have c43m : x3_2.size + (rdOf ByteArray.empty l0_3 x5_2).size + 1 ≤ 9223372036854775807 := by have h_ := c43; simp only [ByteArray.size_append] at h_; exact h_
               have c43m0 := eq_true c43m
               have c43m1 : decide (x3_2.size + (rdOf ByteArray.empty l0_3 x5_2).size + 1 ≤ 9223372036854775807) = true := decide_eq_true c43m
               have c43m2 : (9223372036854775807 < x3_2.size + (rdOf ByteArray.empty l0_3 x5_2).size + 1) = False := eq_false (Nat.not_lt.2 c43m)
               replace H := Option.bind_eq_some_iff.mp H
               obtain ⟨t180, A440, H⟩ := H
               try dsimp only at H
               have A44 := Aside0.mk A440
               clear A440
               by_cases c45 : ((x3_2 ++ (rdOf ByteArray.empty l0_3 x5_2)) ++ (⟨#[58]⟩ : ByteArray)).size + t180.size ≤ 9223372036854775807
               ·rw [if_pos c45] at H
                have c45b0 := eq_true c45
                have c45b1 : decide (((x3_2 ++ (rdOf ByteArray.empty l0_3 x5_2)) ++ (⟨#[58]⟩ : ByteArray)).size + t180.size ≤ 9223372036854775807) = true := decide_eq_true c45
                try have c45b2 : (9223372036854775807 < ((x3_2 ++ (rdOf ByteArray.empty l0_3 x5_2)) ++ (⟨#[58]⟩ : ByteArray)).size + t180.size) = False := eq_false (Nat.not_lt.2 c45)
                have c45m : x3_2.size + (rdOf ByteArray.empty l0_3 x5_2).size + 1 + t180.size ≤ 9223372036854775807 := by have h_ := c45; simp only [ByteArray.size_append] at h_; exact h_
                have c45m0 := eq_true c45m
                have c45m1 : decide (x3_2.size + (rdOf ByteArray.empty l0_3 x5_2).size + 1 + t180.size ≤ 9223372036854775807) = true := decide_eq_true c45m
                have c45m2 : (9223372036854775807 < x3_2.size + (rdOf ByteArray.empty l0_3 x5_2).size + 1 + t180.size) = False := eq_false (Nat.not_lt.2 c45m)
                have H' := Aside0.mk H
                clear H
                obtain ⟨hcz46_0, hcz46_1, hcz46_2, hcz46_3, hcz46_4, hfz46_0, hfz46_1, hfz46_2, hfz46_3, hfz46_4⟩ := blk5 BK170
                have p178 : 0 ≤ (x5_2 : Int) := of_decide_eq_true (by first | (with_reducible assumption) | assumption)
                have q178 : x5_2 < (l0_3.length : Int) := of_decide_eq_true (by first | (with_reducible assumption) | assumption)
                obtain ⟨ad178, e178, hx178_0⟩ := Kd.at_string HR0_3.out x5_2 p178 q178
                cases e178
                replace hx178_0 := (HB.out.cell (World.block_lt_of_cell? w _ hx178_0)).trans hx178_0
                replace p178 := eq_true p178
                replace q178 := eq_true q178
                have p179 : 0 ≤ (x5_2 : Int) := of_decide_eq_true (by first | (with_reducible assumption) | assumption)
                have q179 : x5_2 < (l0_4.length : Int) := of_decide_eq_true (by first | (with_reducible assumption) | assumption)
                obtain ⟨ad179, A179_3, c179_3, A179_4, c179_4, e179, hx179_0, hx179_1, hx179_2, hx179_3, hx179_4, hl179_3, hi179_3, hl179_4, hi179_4⟩ := at_T39 HR0_4.out x5_2 p179 q179
                cases e179
                replace hx179_0 := (HB.out.cell (World.block_lt_of_cell? w _ hx179_0)).trans hx179_0
                replace hx179_1 := (HB.out.cell (World.block_lt_of_cell? w _ hx179_1)).trans hx179_1
                replace hx179_2 := (HB.out.cell (World.block_lt_of_cell? w _ hx179_2)).trans hx179_2
                replace hx179_3 := (HB.out.cell (World.block_lt_of_cell? w _ hx179_3)).trans hx179_3
                replace hx179_4 := (HB.out.cell (World.block_lt_of_cell? w _ hx179_4)).trans hx179_4
                have HR179_3 := Aside0.mk hi179_3
                have HC179_3 := Aside0.mk hl179_3
                clear hi179_3 hl179_3
                have HR179_4 := Aside0.mk hi179_4
                have HC179_4 := Aside0.mk hl179_4
                clear hi179_4 hl179_4
                replace p179 := eq_true p179
                replace q179 := eq_true q179
                go_wp2_with (first | ((with_reducible refine gate_callee (f := 11) rfl ?_); refine goesL_ (some 54) rfl rfl Tryd.func11 (by kernel_rfl) rfl #[.agg #[.int .i64 ((rd_T39 l0_4 x5_2).f0), .string ((rd_T39 l0_4 x5_2).f1), .int .i64 ((rd_T39 l0_4 x5_2).f2), .slice A179_3 ((rd_T39 l0_4 x5_2).f3).length c179_3, .slice A179_4 ((rd_T39 l0_4 x5_2).f4).length c179_4]] rfl (by (try simp only [List.map_toArray, List.map_cons, List.map_nil]); first | done | rfl | (simp only [List.length_drop, List.length_take]; rfl)) ?_; (with_reducible refine (ih k2 (by have := HJ17.out; have := HK2.out; omega) ((rd_T39 l0_4 x5_2).f0) ((rd_T39 l0_4 x5_2).f1) ((rd_T39 l0_4 x5_2).f2) _ _ ((rd_T39 l0_4 x5_2).f3) _ _ ((rd_T39 l0_4 x5_2).f4) t180 _ (qC HR179_3 HB) HC179_3.out (qC HR179_4 HB) HC179_4.out A44.out).mono ?_); rintro e w47 ⟨rfl, hb⟩; refine ⟨_, rfl, ?_⟩; have n0_ := Aside0.mk (blk_below (qK BK170) hb); have n1_ := Aside0.mk (below_step (qB HB) hb); clear BK170; clear HB; have BK170 := n0_; have HB := n1_; clear n0_ n1_; (try clear hb); (try clear hb2); (try clear hk); (try clear hi)))
                go_roundg k2
                case measure => have := HJ17.out; have := HK2.out; omega
                case rel => exact ⟨(((x3_2 ++ (rdOf ByteArray.empty l0_3 x5_2)) ++ (⟨#[58]⟩ : ByteArray)) ++ t180), (wrap64 (x5_2 + 1)), (by first | rfl | (simp; done) | (simp [*]; done)), (by first | rfl | (simp; done) | (simp [*]; done)), H', ⟨by have := HJ17.out; have := HK2.out; omega⟩, ⟨qK BK170⟩, ⟨qB HB⟩⟩
               ·rw [if_neg c45] at H
                exact absurd H (by simp)
              ·rw [if_neg c43] at H
               exact absurd H (by simp)
             ·rw [if_neg c42] at H
              exact absurd H (by simp)
            ·rw [if_neg c41] at H
             exact absurd H (by simp)
           ·rw [if_neg c40] at H
            exact absurd H (by simp)
          ·rw [if_neg c39] at H
           have c39b0 : (a0_0 == 5) = false := beq_eq_false_iff_ne.mpr c39
           have c39b1 : (a0_0 != 5) = true := bne_iff_ne.mpr c39
           by_cases c48 : 0 ≤ x5_2
           ·rw [if_pos c48] at H
            have c48b0 : decide (0 ≤ x5_2) = true := decide_eq_true c48
            clear c48
            replace H := Option.bind_eq_some_iff.mp H
            obtain ⟨t182, A490, H⟩ := H
            try dsimp only at H
            have A49 := Aside0.mk A490
            clear A490
            by_cases c50 : x3_2.size + t182.size ≤ 9223372036854775807
            ·rw [if_pos c50] at H
             have c50b0 := eq_true c50
             have c50b1 : decide (x3_2.size + t182.size ≤ 9223372036854775807) = true := decide_eq_true c50
             try have c50b2 : (9223372036854775807 < x3_2.size + t182.size) = False := eq_false (Nat.not_lt.2 c50)
             have H' := Aside0.mk H
             clear H
             obtain ⟨hcz51_0, hcz51_1, hcz51_2, hcz51_3, hcz51_4, hfz51_0, hfz51_1, hfz51_2, hfz51_3, hfz51_4⟩ := blk5 BK170
             have p181 : 0 ≤ (x5_2 : Int) := of_decide_eq_true (by first | (with_reducible assumption) | assumption)
             have q181 : x5_2 < (l0_4.length : Int) := of_decide_eq_true (by first | (with_reducible assumption) | assumption)
             obtain ⟨ad181, A181_3, c181_3, A181_4, c181_4, e181, hx181_0, hx181_1, hx181_2, hx181_3, hx181_4, hl181_3, hi181_3, hl181_4, hi181_4⟩ := at_T39 HR0_4.out x5_2 p181 q181
             cases e181
             replace hx181_0 := (HB.out.cell (World.block_lt_of_cell? w _ hx181_0)).trans hx181_0
             replace hx181_1 := (HB.out.cell (World.block_lt_of_cell? w _ hx181_1)).trans hx181_1
             replace hx181_2 := (HB.out.cell (World.block_lt_of_cell? w _ hx181_2)).trans hx181_2
             replace hx181_3 := (HB.out.cell (World.block_lt_of_cell? w _ hx181_3)).trans hx181_3
             replace hx181_4 := (HB.out.cell (World.block_lt_of_cell? w _ hx181_4)).trans hx181_4
             have HR181_3 := Aside0.mk hi181_3
             have HC181_3 := Aside0.mk hl181_3
             clear hi181_3 hl181_3
             have HR181_4 := Aside0.mk hi181_4
             have HC181_4 := Aside0.mk hl181_4
             clear hi181_4 hl181_4
             replace p181 := eq_true p181
             replace q181 := eq_true q181
             go_wp2_with (first | ((with_reducible refine gate_callee (f := 11) rfl ?_); refine goesL_ (some 54) rfl rfl Tryd.func11 (by kernel_rfl) rfl #[.agg #[.int .i64 ((rd_T39 l0_4 x5_2).f0), .string ((rd_T39 l0_4 x5_2).f1), .int .i64 ((rd_T39 l0_4 x5_2).f2), .slice A181_3 ((rd_T39 l0_4 x5_2).f3).length c181_3, .slice A181_4 ((rd_T39 l0_4 x5_2).f4).length c181_4]] rfl (by (try simp only [List.map_toArray, List.map_cons, List.map_nil]); first | done | rfl | (simp only [List.length_drop, List.length_take]; rfl)) ?_; (with_reducible refine (ih k2 (by have := HJ17.out; have := HK2.out; omega) ((rd_T39 l0_4 x5_2).f0) ((rd_T39 l0_4 x5_2).f1) ((rd_T39 l0_4 x5_2).f2) _ _ ((rd_T39 l0_4 x5_2).f3) _ _ ((rd_T39 l0_4 x5_2).f4) t182 _ (qC HR181_3 HB) HC181_3.out (qC HR181_4 HB) HC181_4.out A49.out).mono ?_); rintro e w52 ⟨rfl, hb⟩; refine ⟨_, rfl, ?_⟩; have n0_ := Aside0.mk (blk_below (qK BK170) hb); have n1_ := Aside0.mk (below_step (qB HB) hb); clear BK170; clear HB; have BK170 := n0_; have HB := n1_; clear n0_ n1_; (try clear hb); (try clear hb2); (try clear hk); (try clear hi)))
             go_roundg k2
             case measure => have := HJ17.out; have := HK2.out; omega
             case rel => exact ⟨(x3_2 ++ t182), (wrap64 (x5_2 + 1)), (by first | rfl | (simp; done) | (simp [*]; done)), (by first | rfl | (simp; done) | (simp [*]; done)), H', ⟨by have := HJ17.out; have := HK2.out; omega⟩, ⟨qK BK170⟩, ⟨qB HB⟩⟩
            ·rw [if_neg c50] at H
             exact absurd H (by simp)
           ·rw [if_neg c48] at H
            exact absurd H (by simp)
        ·rw [if_neg c22] at H
         have c22b0 : decide (x5_2 < (l0_4.length : Int)) = false := decide_eq_false c22
         clear c22
         by_cases c53 : x3_2.size + x4_17.size ≤ 9223372036854775807
         ·rw [if_pos c53] at H
          have c53b0 := eq_true c53
          have c53b1 : decide (x3_2.size + x4_17.size ≤ 9223372036854775807) = true := decide_eq_true c53
          try have c53b2 : (9223372036854775807 < x3_2.size + x4_17.size) = False := eq_false (Nat.not_lt.2 c53)
          obtain rfl := Option.some.inj H
          obtain ⟨hcz54_0, hcz54_1, hcz54_2, hcz54_3, hcz54_4, hfz54_0, hfz54_1, hfz54_2, hfz54_3, hfz54_4⟩ := blk5 BK170
          go_wp2
          go_ret
          exact ⟨by first | rfl | (simp [errW_none, errW_some] <;> rfl) | (simp [*, errW_none, errW_some] <;> rfl), by repeat (first | (with_reducible first | exact HB.out | apply below_alloc | apply pw_below_drewN | apply below_drew1 | refine below_set ?_ GE170.out) | exact HB.out)⟩
         ·rw [if_neg c53] at H
          exact absurd H (by simp)

end Go.Proofs.YtgcgkcchoghkaaaDoor.G

/- PValText -/
/-
  ValueText: the text of a value that is right, both ways.
-/
namespace Go.Proofs.YtgcgkcchoghkaaaDoor.G
open Go.RowKit Go.Proofs.YtgcgkcchoghkaaaDoorW.PrintWords Go.Proofs.YtgcgkcchoghkaaaDoorW.PrintLast Go.Proofs.YtgcgkcchoghkaaaDoorW.PrintMore
set_option linter.unusedVariables false
set_option linter.unusedSimpArgs false
theorem jn_sum (c : UInt8) : ∀ (n : Nat) (xs : List ByteArray), xs.length = n → (jn xs ⟨#[c]⟩).size ≤ (xs.map (fun x => x.size + 1)).sum := by
  intro n
  induction n with
  | zero => intro xs h; obtain rfl := List.eq_nil_of_length_eq_zero h; exact Nat.le_refl 0
  | succ n ih =>
    intro xs hl
    obtain ⟨zs, z, rfl⟩ : ∃ zs z, xs = zs ++ [z] := ⟨xs.dropLast, xs.getLast (by intro h; rw [h] at hl; simp at hl), (List.dropLast_concat_getLast _).symm⟩
    have hzl : zs.length = n := by simpa using hl
    have := ih zs hzl
    rw [List.map_append, List.sum_append, List.map_cons, List.map_nil, List.sum_cons, List.sum_nil]
    rcases List.eq_nil_or_concat zs with h0 | ⟨_, _, h0⟩
    · subst h0; rw [List.nil_append, jn_one]; omega
    · rw [jn_snoc zs z _ (by rw [h0]; simp), ByteArray.size_append, ByteArray.size_append]
      have : (⟨#[c]⟩ : ByteArray).size = 1 := rfl
      omega
theorem sumL_pos {m : IVal → Nat} : ∀ (ys : List IVal) (n : Nat), 0 < sumL m n ys → (∀ y ∈ ys, 0 < m y) ∧ sumL m n ys = n + (ys.map m).sum
  | [], n, _ => ⟨fun y hy => (by cases hy), (by simp [sumL])⟩
  | y :: ys, n, h => by
    by_cases c : m y = 0 ∨ n + m y > 300
    · rw [sumL_bad c] at h; omega
    · rw [sumL_good c] at h ⊢
      obtain ⟨h1, h2⟩ := sumL_pos ys _ h
      refine ⟨fun z hz => ?_, by rw [h2, List.map_cons, List.sum_cons]; omega⟩
      rcases List.mem_cons.1 hz with rfl | hz
      · omega
      · exact h1 z hz
theorem look_parts {r : Nat} {x : IVal} (h : 0 < lookN (r + 1) x) : shB x = true ∧ (∀ y ∈ x.f4, 0 < lookN r y) ∧ lookN (r + 1) x = 1 + (x.f4.map (lookN r)).sum ∧ lookN (r + 1) x ≤ 300 := by
  have hle := lookN_le (r + 1) x
  rw [lookN] at h ⊢
  by_cases c : shB x = true
  · rw [if_pos c] at h ⊢
    obtain ⟨h1, h2⟩ := sumL_pos _ _ h
    refine ⟨c, h1, h2, ?_⟩
    rw [lookN, if_pos c] at hle; exact hle
  · rw [if_neg c] at h; omega
/-- The kinds of a value whose shape is right. -/
theorem sh_cases {x : IVal} (h : shB x = true) : (x.f0 = 1 ∧ x.f1.size ≤ 100) ∨ x.f0 = 2 ∨ x.f0 = 3 ∨ x.f0 = 4 ∨ (x.f0 = 5 ∧ x.f3.length = x.f4.length ∧ ∀ k ∈ x.f3, k.size ≤ 20) := by
  unfold shB at h
  by_cases c1 : x.f0 = 1
  · rw [if_pos c1] at h
    simp only [Bool.and_eq_true, textB, decide_eq_true_eq] at h
    exact .inl ⟨c1, by omega⟩
  · by_cases c2 : x.f0 = 2
    · exact .inr (.inl c2)
    · by_cases c3 : x.f0 = 3
      · exact .inr (.inr (.inl c3))
      · by_cases c4 : x.f0 = 4
        · exact .inr (.inr (.inr (.inl c4)))
        · by_cases c5 : x.f0 = 5
          · rw [if_neg c1, if_neg c2, if_neg c3, if_neg c4, if_pos c5] at h
            simp only [Bool.and_eq_true, beq_iff_eq] at h
            refine .inr (.inr (.inr (.inr ⟨c5, by omega, fun k hk => ?_⟩)))
            obtain ⟨i, hi, rfl⟩ := List.getElem_of_mem hk
            have := namOk_name (allN_true.1 h.2.2.1 i hi)
            rw [rdS hi] at this
            simp only [nameB, Bool.and_eq_true] at this
            have := inB_true this.2.1
            omega
          · rw [if_neg c1, if_neg c2, if_neg c3, if_neg c4, if_neg c5] at h
            cases h
def colon (k t : ByteArray) : ByteArray := k ++ ⟨#[58]⟩ ++ t
def txtN : Nat → IVal → ByteArray
  | 0, _ => ⟨#[]⟩
  | n + 1, x =>
    if x.f0 = 1 then qt x.f1 else if x.f0 = 2 then decS x.f2 else if x.f0 = 3 then (if x.f2 = 1 then ⟨#[116, 114, 117, 101]⟩ else ⟨#[102, 97, 108, 115, 101]⟩)
    else if x.f0 = 5 then (⟨#[123]⟩ ++ jn (List.zipWith (fun k y => colon k (txtN n y)) x.f3 x.f4) ⟨#[44]⟩) ++ ⟨#[125]⟩
    else (⟨#[91]⟩ ++ jn (x.f4.map (txtN n)) ⟨#[44]⟩) ++ ⟨#[93]⟩
def partsN (n : Nat) (x : IVal) : List ByteArray := if x.f0 = 5 then List.zipWith (fun k y => colon k (txtN n y)) x.f3 x.f4 else x.f4.map (txtN n)
theorem sb1 (a : UInt8) : (⟨#[a]⟩ : ByteArray).size = 1 := rfl
theorem colon_size (k t : ByteArray) : (colon k t).size = k.size + t.size + 1 := by unfold colon; rw [ByteArray.size_append, ByteArray.size_append, sb1]; omega
theorem zip_sum (f : IVal → ByteArray) (g : IVal → Nat) : ∀ (ks : List ByteArray) (ys : List IVal), (∀ k ∈ ks, k.size ≤ 20) → (∀ y ∈ ys, (f y).size + 50 ≤ 300 * g y) → ((List.zipWith (fun k y => colon k (f y)) ks ys).map (fun x => x.size + 1)).sum ≤ 300 * (ys.map g).sum
  | [], ys, _, _ => by simp
  | k :: ks, [], _, _ => by simp
  | k :: ks, y :: ys, h1, h2 => by
    have := zip_sum f g ks ys (fun a ha => h1 a (by simp [ha])) (fun a ha => h2 a (by simp [ha]))
    have a1 := h1 k (by simp)
    have a2 := h2 y (by simp)
    rw [List.zipWith_cons_cons, List.map_cons, List.sum_cons, List.map_cons, List.sum_cons, colon_size]
    omega
theorem map_sum (f : IVal → ByteArray) (g : IVal → Nat) : ∀ (ys : List IVal), (∀ y ∈ ys, (f y).size + 50 ≤ 300 * g y) → ((ys.map f).map (fun x => x.size + 1)).sum ≤ 300 * (ys.map g).sum
  | [], _ => by simp
  | y :: ys, h2 => by
    have := map_sum f g ys (fun a ha => h2 a (by simp [ha]))
    have a2 := h2 y (by simp)
    rw [List.map_cons, List.map_cons, List.sum_cons, List.map_cons, List.sum_cons]
    omega
theorem parts_sum (r : Nat) (x : IVal) (hs : shB x = true) (hk : ∀ y ∈ x.f4, (txtN r y).size + 50 ≤ 300 * lookN r y) : ((partsN r x).map (fun x => x.size + 1)).sum ≤ 300 * (x.f4.map (lookN r)).sum := by
  unfold partsN
  by_cases c : x.f0 = 5
  · rw [if_pos c]
    rcases sh_cases hs with ⟨h, _⟩ | h | h | h | ⟨_, _, h⟩
    · omega
    · omega
    · omega
    · omega
    · exact zip_sum _ _ _ _ h hk
  · rw [if_neg c]
    exact map_sum _ _ _ hk
theorem txt_size : ∀ (r n : Nat) (x : IVal), SmI n x → 0 < lookN r x → (txtN r x).size + 50 ≤ 300 * lookN r x
  | 0, n, x, _, h => by simp [lookN] at h
  | r + 1, n, x, hsm, h => by
    obtain ⟨m, rfl, _, _, _, hkids⟩ := smI_parts hsm
    have hnum : -9223372036854775808 ≤ x.f2 ∧ x.f2 ≤ 9223372036854775807 := by rw [SmI] at hsm; exact hsm.1
    obtain ⟨hs, hk, he, hle⟩ := look_parts h
    have hkk : ∀ y ∈ x.f4, (txtN r y).size + 50 ≤ 300 * lookN r y := fun y hy => txt_size r m y (hkids y hy) (hk y hy)
    have hp := parts_sum r x hs hkk
    have hj := jn_sum 44 _ (partsN r x) rfl
    unfold partsN at hp hj
    rw [txtN, he]
    rcases sh_cases hs with ⟨c, h1⟩ | c | c | c | ⟨c, h2, h3⟩
    · rw [if_pos c]
      have := qt_size x.f1
      omega
    · rw [if_neg (by omega), if_pos c]
      have := decS_size hnum
      omega
    · rw [if_neg (by omega), if_neg (by omega), if_pos c]
      split
      · show 4 + 50 ≤ _; omega
      · show 5 + 50 ≤ _; omega
    · rw [if_neg (by omega), if_neg (by omega), if_neg (by omega), if_neg (by omega), ByteArray.size_append, ByteArray.size_append, sb1, sb1]
      rw [if_neg (by omega)] at hp hj
      omega
    · rw [if_neg (by omega), if_neg (by omega), if_neg (by omega), if_pos c, ByteArray.size_append, ByteArray.size_append, sb1, sb1]
      rw [if_pos c] at hp hj
      omega
theorem jn_take_le (c : UInt8) (xs : List ByteArray) (i : Nat) : (jn (xs.take i) ⟨#[c]⟩).size ≤ (xs.map (fun x => x.size + 1)).sum := by
  have h := jn_sum c _ (xs.take i) rfl
  have h2 : ((xs.take i).map (fun x => x.size + 1)).sum ≤ (xs.map (fun x => x.size + 1)).sum := by
    conv => rhs; rw [← List.take_append_drop i xs]
    rw [List.map_append, List.sum_append]; omega
  omega
theorem part_le (xs : List ByteArray) {i : Nat} (hi : i < xs.length) : xs[i].size ≤ (xs.map (fun x => x.size + 1)).sum := by
  have := le_sum_map (fun x : ByteArray => x.size + 1) (List.getElem_mem hi)
  omega
theorem parts_len5 {r : Nat} {x : IVal} (hs : shB x = true) (h : ¬ (x.f0 = 1 ∨ x.f0 = 2 ∨ x.f0 = 3)) : (partsN r x).length = x.f4.length := by
  unfold partsN
  rcases sh_cases hs with ⟨c, _⟩ | c | c | c | ⟨c, h2, _⟩
  · omega
  · omega
  · omega
  · rw [if_neg (by omega), List.length_map]
  · rw [if_pos c, List.length_zipWith]; omega
theorem part_map {r : Nat} {x : IVal} (c : x.f0 = 5) (hl : x.f3.length = x.f4.length) {i : Nat} (hi : i < x.f4.length) (hp : i < (partsN r x).length) : (partsN r x)[i] = colon (x.f3[i]'(by omega)) (txtN r x.f4[i]) := by
  unfold partsN
  simp only [if_pos c, List.getElem_zipWith]
theorem part_list {r : Nat} {x : IVal} (c : ¬ x.f0 = 5) {i : Nat} (hi : i < x.f4.length) (hp : i < (partsN r x).length) : (partsN r x)[i] = txtN r x.f4[i] := by
  unfold partsN
  simp only [if_neg c, List.getElem_map]
theorem written_ev : ∀ (r n : Nat) (x : IVal), SmI n x → 0 < lookN r x → Ev (fun k => impl_written.f k x.f0 x.f1 x.f2 x.f3 x.f4) (txtN r x)
  | 0, n, x, _, h => by simp [lookN] at h
  | r + 1, n, x, hsm, h => by
    obtain ⟨m, rfl, h1, _, h4, hkids⟩ := smI_parts hsm
    have hnum : -9223372036854775808 ≤ x.f2 ∧ x.f2 ≤ 9223372036854775807 := by rw [SmI] at hsm; exact hsm.1
    obtain ⟨hs, hk, he, hle⟩ := look_parts h
    have hkk : ∀ y ∈ x.f4, (txtN r y).size + 50 ≤ 300 * lookN r y := fun y hy => txt_size r m y (hkids y hy) (hk y hy)
    have hp := parts_sum r x hs hkk
    refine Ev.step (fun k => by rw [impl_written.f]) ?_
    rw [txtN]
    by_cases c1 : x.f0 = 1
    · rw [if_pos c1]
      exact ev_if_pos c1 (Ev.bind (ev_now (quoted_f x.f1 h1)) (Ev.now _))
    refine ev_if_neg c1 ?_
    rw [if_neg c1]
    by_cases c2 : x.f0 = 2
    · rw [if_pos c2]
      refine ev_if_pos c2 (Ev.bind (a := decS x.f2) (ev_now ?_) (Ev.now _))
      unfold impl_decimal.f
      rw [if_pos hnum]
    refine ev_if_neg c2 ?_
    rw [if_neg c2]
    by_cases c3 : x.f0 = 3
    · rw [if_pos c3]
      refine ev_if_pos c3 ?_
      by_cases d : x.f2 = 1
      · exact ev_rw (ev_if_pos d (Ev.now _)) (if_pos d).symm
      · exact ev_rw (ev_if_neg d (Ev.now _)) (if_neg d).symm
    refine ev_if_neg c3 ?_
    rw [if_neg c3]
    have hlen := parts_len5 (r := r) hs (by omega)
    have loop : ∀ (d i : Nat), i + d = x.f4.length → Ev (fun k => impl_written.l0 k ((partsN r x).take i) x.f4 x.f4.length i x.f0 x.f1 x.f2 x.f3 x.f4)
        (if x.f0 = 5 then (⟨#[123]⟩ ++ jn (partsN r x) ⟨#[44]⟩) ++ ⟨#[125]⟩ else (⟨#[91]⟩ ++ jn (partsN r x) ⟨#[44]⟩) ++ ⟨#[93]⟩) := by
      intro d
      induction d with
      | zero =>
        intro i hi
        have hj := jn_take_le 44 (partsN r x) i
        refine Ev.step (fun k => by rw [impl_written.l0]) (ev_if_neg (by omega) ?_)
        rw [List.take_of_length_le (by omega)] at hj ⊢
        refine Ev.bind (ev_now (join_f _ _ (by omega) (by omega))) ?_
        by_cases c : x.f0 = 5
        · exact ev_rw (ev_if_pos c (ev_if_pos (by omega) (ev_if_pos (by rw [ByteArray.size_append, sb1]; omega) (Ev.now _)))) (if_pos c).symm
        · exact ev_rw (ev_if_neg c (ev_if_pos (by omega) (ev_if_pos (by rw [ByteArray.size_append, sb1]; omega) (Ev.now _)))) (if_neg c).symm
      | succ d ih =>
        intro i hid
        have hi : i < x.f4.length := by omega
        have hi2 : i < (partsN r x).length := by omega
        have ih := ih (i + 1) (by omega)
        have hpl := part_le (partsN r x) hi2
        rw [List.take_succ_eq_append_getElem hi2] at ih
        have hw := written_ev r m x.f4[i] (hkids _ (List.getElem_mem hi)) (hk _ (List.getElem_mem hi))
        have htl : ((partsN r x).take i).length < 8796093022208 := by rw [List.length_take]; omega
        refine Ev.step (fun k => by rw [impl_written.l0]) (ev_if_pos (by omega) (ev_if_pos (by omega) (ev_if_pos (by omega) ?_)))
        rw [wsucc (n := x.f4.length) hi (by omega), rdIV hi]
        refine Ev.bind hw ?_
        by_cases c : x.f0 = 5
        · rcases sh_cases hs with ⟨h', _⟩ | h' | h' | h' | ⟨_, hkl, hk20⟩
          · omega
          · omega
          · omega
          · omega
          have hi3 : i < x.f3.length := by omega
          rw [part_map c hkl hi hi2] at ih hpl
          rw [colon_size] at hpl
          refine ev_if_pos c (ev_if_pos (by omega) ?_)
          rw [rdS hi3]
          exact ev_if_pos (by omega) (ev_if_pos (by rw [ByteArray.size_append, sb1]; omega) (ev_if_pos htl ih))
        · rw [part_list c hi hi2] at ih
          exact ev_if_neg c (ev_if_pos htl ih)
    have := loop x.f4.length 0 (by omega)
    by_cases c : x.f0 = 5
    · rw [if_pos c] at this ⊢
      unfold partsN at this
      simp only [if_pos c, List.take_zero] at this
      exact this
    · rw [if_neg c] at this ⊢
      unfold partsN at this
      simp only [if_neg c, List.take_zero] at this
      exact this
theorem l4Print_ev : ∀ (r n : Nat) (x : IVal), SmI n x → 0 < lookN r x → Ev (fun k => spec_l4Print.f k x.f0 x.f1 x.f2 x.f3 x.f4) (txtN r x)
  | 0, n, x, _, h => by simp [lookN] at h
  | r + 1, n, x, hsm, h => by
    obtain ⟨m, rfl, h1, _, h4, hkids⟩ := smI_parts hsm
    have hnum : -9223372036854775808 ≤ x.f2 ∧ x.f2 ≤ 9223372036854775807 := by rw [SmI] at hsm; exact hsm.1
    obtain ⟨hs, hk, he, hle⟩ := look_parts h
    have hkk : ∀ y ∈ x.f4, (txtN r y).size + 50 ≤ 300 * lookN r y := fun y hy => txt_size r m y (hkids y hy) (hk y hy)
    have hp := parts_sum r x hs hkk
    refine Ev.step (fun k => by rw [spec_l4Print.f]) ?_
    rw [txtN]
    by_cases c1 : x.f0 = 1
    · rw [if_pos c1]
      exact ev_if_pos c1 (Ev.bind (l4Quoted_ev x.f1 h1) (Ev.now _))
    refine ev_if_neg c1 ?_
    rw [if_neg c1]
    by_cases c2 : x.f0 = 2
    · rw [if_pos c2]
      exact ev_if_pos c2 (Ev.bind (l4Int_ev x.f2 hnum) (Ev.now _))
    refine ev_if_neg c2 ?_
    rw [if_neg c2]
    by_cases c3 : x.f0 = 3
    · rw [if_pos c3]
      refine ev_if_pos c3 ?_
      by_cases d : x.f2 = 1
      · exact ev_rw (ev_if_pos d (Ev.now _)) (if_pos d).symm
      · exact ev_rw (ev_if_neg d (Ev.now _)) (if_neg d).symm
    refine ev_if_neg c3 ?_
    rw [if_neg c3]
    have hlen := parts_len5 (r := r) hs (by omega)
    have loop : ∀ (a z : UInt8) (d i : Nat), i + d = x.f4.length → Ev (fun k => spec_l4Print.l0 k (⟨#[a]⟩ ++ jn ((partsN r x).take i) ⟨#[44]⟩) ⟨#[z]⟩ i x.f0 x.f1 x.f2 x.f3 x.f4) ((⟨#[a]⟩ ++ jn (partsN r x) ⟨#[44]⟩) ++ ⟨#[z]⟩) := by
      intro a z d
      induction d with
      | zero =>
        intro i hi
        have hj := jn_take_le 44 (partsN r x) i
        refine Ev.step (fun k => by rw [spec_l4Print.l0]) (ev_if_neg (by omega) ?_)
        rw [List.take_of_length_le (by omega)] at hj ⊢
        exact ev_if_pos (by rw [ByteArray.size_append, sb1, sb1]; omega) (Ev.now _)
      | succ d ih =>
        intro i hid
        have hi : i < x.f4.length := by omega
        have hi2 : i < (partsN r x).length := by omega
        have ih := ih (i + 1) (by omega)
        have hpl := part_le (partsN r x) hi2
        have hj := jn_take_le 44 (partsN r x) i
        have hj0 : (⟨#[a]⟩ ++ jn ((partsN r x).take i) ⟨#[44]⟩ : ByteArray).size = 1 + (jn ((partsN r x).take i) ⟨#[44]⟩).size := by rw [ByteArray.size_append, sb1]
        rw [jn_take_succ (partsN r x) ⟨#[44]⟩ ⟨#[a]⟩ hi2] at ih
        have hw := l4Print_ev r m x.f4[i] (hkids _ (List.getElem_mem hi)) (hk _ (List.getElem_mem hi))
        refine Ev.step (fun k => by rw [spec_l4Print.l0]) (ev_if_pos (by omega) ?_)
        simp only [wsucc (n := x.f4.length) hi (by omega), rdIV hi]
        by_cases c : x.f0 = 5
        · rcases sh_cases hs with ⟨h', _⟩ | h' | h' | h' | ⟨_, hkl, hk20⟩
          · omega
          · omega
          · omega
          · omega
          have hi3 : i < x.f3.length := by omega
          rw [part_map c hkl hi hi2] at ih hpl
          rw [colon_size] at hpl
          simp only [rdS hi3]
          by_cases ci : 0 < i
          · rw [if_pos ci] at ih
            refine ev_if_pos (by omega) (ev_if_pos (by omega) (ev_if_pos c (ev_if_pos (by omega) (ev_if_pos (by omega) (ev_if_pos (by rw [ByteArray.size_append, sb1]; omega) (ev_if_pos (by simp only [ByteArray.size_append, sb1] at hj0 ⊢; omega) (Ev.bind hw (ev_if_pos (by simp only [ByteArray.size_append, sb1] at hj0 ⊢; omega) ?_))))))))
            unfold colon at ih
            simp only [ByteArray.append_assoc] at ih ⊢
            exact ih
          · rw [if_neg ci] at ih
            obtain rfl : i = 0 := by omega
            have e0 : (⟨#[a]⟩ ++ jn ((partsN r x).take 0) ⟨#[44]⟩ : ByteArray) = ⟨#[a]⟩ := by rw [List.take_zero, jn_nil]; exact ByteArray.append_empty
            rw [e0]
            refine ev_if_neg (by omega) (ev_if_pos c (ev_if_pos (by omega) (ev_if_pos (by omega) (ev_if_pos (by rw [sb1]; omega) (ev_if_pos (by rw [ByteArray.size_append, sb1]; omega) (Ev.bind hw (ev_if_pos (by simp only [ByteArray.size_append, sb1]; omega) ?_)))))))
            unfold colon at ih
            simp only [ByteArray.append_assoc] at ih ⊢
            exact ih
        · rw [part_list c hi hi2] at ih hpl
          by_cases ci : 0 < i
          · rw [if_pos ci] at ih
            exact ev_if_pos (by omega) (ev_if_pos (by omega) (ev_if_neg c (ev_if_pos (by omega) (Ev.bind hw (ev_if_pos (by rw [ByteArray.size_append, sb1]; omega) ih)))))
          · rw [if_neg ci] at ih
            obtain rfl : i = 0 := by omega
            have e0 : (⟨#[a]⟩ ++ jn ((partsN r x).take 0) ⟨#[44]⟩ : ByteArray) = ⟨#[a]⟩ := by rw [List.take_zero, jn_nil]; exact ByteArray.append_empty
            rw [e0]
            exact ev_if_neg (by omega) (ev_if_neg c (ev_if_pos (by omega) (Ev.bind hw (ev_if_pos (by rw [sb1]; omega) ih))))
    have e0 : ∀ a : UInt8, (⟨#[a]⟩ ++ jn ((partsN r x).take 0) ⟨#[44]⟩ : ByteArray) = ⟨#[a]⟩ := fun a => by rw [List.take_zero, jn_nil]; exact ByteArray.append_empty
    by_cases c : x.f0 = 5
    · have := loop 123 125 x.f4.length 0 (by omega)
      rw [e0] at this
      rw [if_pos c]
      unfold partsN at this
      simp only [if_pos c] at this
      exact ev_if_pos c (Ev.step (fun k => by rw [spec_l4Print.j0]; rfl) this)
    · have := loop 91 93 x.f4.length 0 (by omega)
      rw [e0] at this
      rw [if_neg c]
      unfold partsN at this
      simp only [if_neg c] at this
      exact ev_if_neg c (Ev.step (fun k => by rw [spec_l4Print.j0]; rfl) this)
end Go.Proofs.YtgcgkcchoghkaaaDoor.G

/- G33 -/
-- Laid by wip/g/gprint.py out of the translation, by the kit's print program. Lean checks it.
namespace Go.Proofs.YtgcgkcchoghkaaaDoor.G
open Go.RowKit Go.Proofs.YtgcgkcchoghkaaaDoorW.PrintWords Go.Proofs.YtgcgkcchoghkaaaDoorW.PrintLast Go.Proofs.YtgcgkcchoghkaaaDoorW.PrintMore
attribute [local go_sem] max2_int min2_int max_two min_two max_three min_three max_four min_four   -- for this text's walks alone
set_option linter.unusedVariables false
set_option linter.unusedSimpArgs false

/-! ### impl_ValueOk: function 33 -/
def impl_ValueOk.f (k : Nat) (a0_0 : Int) (a0_1 : ByteArray) (a0_2 : Int) (l0_3 : List ByteArray) (l0_4 : List (S39)) : Option (Bool) := (impl_measured.f k a0_0 a0_1 a0_2 l0_3 l0_4 6).bind fun t272 => (some (decide (t272 ≤ 300)))
set_option maxHeartbeats 8000000 in
set_option maxRecDepth 100000 in
theorem impl_ValueOk.calls (k : Nat) (a0_0 : Int) (a0_1 : ByteArray) (a0_2 : Int) (A0_3 : Option Addr) (c0_3 : Nat) (l0_3 : List ByteArray) (A0_4 : Option Addr) (c0_4 : Nat) (l0_4 : List (S39)) (r : Bool) (w : World) (hr0_3 : Kd.C Kd.string w A0_3 l0_3.length l0_3) (hc0_3 : l0_3.length ≤ c0_3) (hr0_4 : Kd.C k39 w A0_4 l0_4.length l0_4) (hc0_4 : l0_4.length ≤ c0_4) (h : impl_ValueOk.f k a0_0 a0_1 a0_2 l0_3 l0_4 = some r) :
    Calls Tryd.prog 33 #[.agg #[.int .i64 a0_0, .string a0_1, .int .i64 a0_2, .slice A0_3 l0_3.length c0_3, .slice A0_4 l0_4.length c0_4]] w fun e w' => e = .returned (.bool r) ∧ Below w.heap.size w w' := by
  have hu39 := Tryd.underlying39
  have HR0_3 := Aside0.mk hr0_3
  have HC0_3 := Aside0.mk hc0_3
  clear hr0_3 hc0_3
  have HR0_4 := Aside0.mk hr0_4
  have HC0_4 := Aside0.mk hc0_4
  clear hr0_4 hc0_4
  have HB := Aside0.mk (Below.refl w.heap.size w)
  have H : ((impl_measured.f k a0_0 a0_1 a0_2 l0_3 l0_4 6).bind fun t272 => (some (decide (t272 ≤ 300)))) = some r := h
  clear h
  replace H := Option.bind_eq_some_iff.mp H
  obtain ⟨t272, A20, H⟩ := H
  replace H : (some (decide (t272 ≤ 300))) = some r := H
  have A2 := Aside0.mk A20
  clear A20
  obtain rfl := Option.some.inj H
  go_enter Tryd.func33, Tryd.ntmps33
  go_wp2_with (first | ((with_reducible refine gate_dst (N := 1) rfl ?_); refine box_event ?hg (N := 1) ?hd (cs := #[.int .i64 a0_0, .string a0_1, .int .i64 a0_2, .slice A0_3 l0_3.length c0_3, .slice A0_4 l0_4.length c0_4]) (t := 39) ?hr ?_; (case hd => rfl); (case hg => rfl); (case hr => first | (go_simp; done) | (go_simp; rfl)); intro gb271 hg w3 hbox hb; have n0_ := Aside0.mk (below_step (by repeat (first | (with_reducible first | exact HB.out | apply below_alloc | apply pw_below_drewN | apply below_drew1) | exact HB.out)) hb); have n1_ := Aside0.mk (hbox); have n2_ := Aside0.mk ((by rw [hg]; exact (below_size (by repeat (first | (with_reducible first | exact HB.out | apply below_alloc | apply pw_below_drewN | apply below_drew1) | exact HB.out))) : w.heap.size ≤ gb271)); have n3_ := Aside0.mk ((by rw [hg]; exact (below_size (by repeat (first | (with_reducible first | exact HB.out | apply below_alloc | apply pw_below_drewN | apply below_drew1) | exact HB.out))) : w.heap.size ≤ gb271)); clear HB; have HB := n0_; have BK271 := n1_; have GW271 := n2_; have GE271 := n3_; clear n0_ n1_ n2_ n3_; clear hb hbox hg; have hcz4_0 : w3.cell? ⟨gb271, 0, none⟩ = some (.int .i64 a0_0) := (blk_cell BK271.out 0).trans rfl; have hcz4_1 : w3.cell? ⟨gb271, 1, none⟩ = some (.string a0_1) := (blk_cell BK271.out 1).trans rfl; have hcz4_2 : w3.cell? ⟨gb271, 2, none⟩ = some (.int .i64 a0_2) := (blk_cell BK271.out 2).trans rfl; have hcz4_3 : w3.cell? ⟨gb271, 3, none⟩ = some (.slice A0_3 l0_3.length c0_3) := (blk_cell BK271.out 3).trans rfl; have hcz4_4 : w3.cell? ⟨gb271, 4, none⟩ = some (.slice A0_4 l0_4.length c0_4) := (blk_cell BK271.out 4).trans rfl; have hfz4_0 := blk_frozen BK271.out 0; have hfz4_1 := blk_frozen BK271.out 1; have hfz4_2 := blk_frozen BK271.out 2; have hfz4_3 := blk_frozen BK271.out 3; have hfz4_4 := blk_frozen BK271.out 4) | ((with_reducible refine gate_callee (f := 51) rfl ?_); refine goesL_ (some 4) rfl rfl Tryd.func51 (by kernel_rfl) rfl #[.agg #[.int .i64 a0_0, .string a0_1, .int .i64 a0_2, .slice A0_3 l0_3.length c0_3, .slice A0_4 l0_4.length c0_4], .int .i64 6] rfl (by (try simp only [List.map_toArray, List.map_cons, List.map_nil]); first | done | rfl | (simp only [List.length_drop, List.length_take]; rfl)) ?_; (with_reducible refine (impl_measured.calls k a0_0 a0_1 a0_2 _ _ l0_3 _ _ l0_4 6 t272 _ ?side1 ?side2 ?side3 ?side4 A2.out).mono ?_); (case side1 => repeat (first | exact (Kd.C_below HR0_3.out HB.out) | (with_reducible refine Kd.C_alloc ?_ _) | (with_reducible refine Kd.C_drewN ?_ _) | (with_reducible refine Kd.C_drew ?_))); (case side2 => exact HC0_3.out); (case side3 => repeat (first | exact (Kd.C_below HR0_4.out HB.out) | (with_reducible refine Kd.C_alloc ?_ _) | (with_reducible refine Kd.C_drewN ?_ _) | (with_reducible refine Kd.C_drew ?_))); (case side4 => exact HC0_4.out); rintro e w5 ⟨rfl, hb⟩; refine ⟨_, rfl, ?_⟩; have n0_ := Aside0.mk (blk_below (g := gb271) (o := .cells #[.int .i64 a0_0, .string a0_1, .int .i64 a0_2, .slice A0_3 l0_3.length c0_3, .slice A0_4 l0_4.length c0_4] 39 (0, 0)) (by (with_reducible repeat (first | refine blk_drewN ?_ _ | refine blk_drew ?_ | refine blk_alloc ?_ _)); exact BK271.out) hb); have n1_ := Aside0.mk (below_step (by repeat (first | (with_reducible first | exact HB.out | apply below_alloc | apply pw_below_drewN | apply below_drew1 | refine below_set ?_ GE271.out) | exact HB.out)) hb); clear BK271; clear HB; have BK271 := n0_; have HB := n1_; clear n0_ n1_; (try clear hb); (try clear hb2); (try clear hk); (try clear hi)))
  go_ret
  exact ⟨by first | rfl | (simp [errW_none, errW_some] <;> rfl) | (simp [*, errW_none, errW_some] <;> rfl), by repeat (first | (with_reducible first | exact HB.out | apply below_alloc | apply pw_below_drewN | apply below_drew1 | refine below_set ?_ GE271.out) | exact HB.out)⟩

end Go.Proofs.YtgcgkcchoghkaaaDoor.G

/- G22 -/
-- Laid by wip/g/gprint.py out of the translation, by the kit's print program. Lean checks it.
namespace Go.Proofs.YtgcgkcchoghkaaaDoor.G
open Go.RowKit Go.Proofs.YtgcgkcchoghkaaaDoorW.PrintWords Go.Proofs.YtgcgkcchoghkaaaDoorW.PrintLast Go.Proofs.YtgcgkcchoghkaaaDoorW.PrintMore
attribute [local go_sem] max2_int min2_int max_two min_two max_three min_three max_four min_four   -- for this text's walks alone
set_option linter.unusedVariables false
set_option linter.unusedSimpArgs false

/-! ### spec_ValueOk: function 22 -/
def spec_ValueOk.f (k : Nat) (a0_0 : Int) (a0_1 : ByteArray) (a0_2 : Int) (l0_3 : List ByteArray) (l0_4 : List (S39)) : Option (Bool) := (spec_l4Look.f k a0_0 a0_1 a0_2 l0_3 l0_4 6).bind fun t136 => (some (decide (t136 > 0)))
set_option maxHeartbeats 8000000 in
set_option maxRecDepth 100000 in
theorem spec_ValueOk.calls (k : Nat) (a0_0 : Int) (a0_1 : ByteArray) (a0_2 : Int) (A0_3 : Option Addr) (c0_3 : Nat) (l0_3 : List ByteArray) (A0_4 : Option Addr) (c0_4 : Nat) (l0_4 : List (S39)) (r : Bool) (w : World) (hr0_3 : Kd.C Kd.string w A0_3 l0_3.length l0_3) (hc0_3 : l0_3.length ≤ c0_3) (hr0_4 : Kd.C k39 w A0_4 l0_4.length l0_4) (hc0_4 : l0_4.length ≤ c0_4) (h : spec_ValueOk.f k a0_0 a0_1 a0_2 l0_3 l0_4 = some r) :
    Calls Tryd.prog 22 #[.agg #[.int .i64 a0_0, .string a0_1, .int .i64 a0_2, .slice A0_3 l0_3.length c0_3, .slice A0_4 l0_4.length c0_4]] w fun e w' => e = .returned (.bool r) ∧ Below w.heap.size w w' := by
  have hu39 := Tryd.underlying39
  have HR0_3 := Aside0.mk hr0_3
  have HC0_3 := Aside0.mk hc0_3
  clear hr0_3 hc0_3
  have HR0_4 := Aside0.mk hr0_4
  have HC0_4 := Aside0.mk hc0_4
  clear hr0_4 hc0_4
  have HB := Aside0.mk (Below.refl w.heap.size w)
  have H : ((spec_l4Look.f k a0_0 a0_1 a0_2 l0_3 l0_4 6).bind fun t136 => (some (decide (t136 > 0)))) = some r := h
  clear h
  replace H := Option.bind_eq_some_iff.mp H
  obtain ⟨t136, A20, H⟩ := H
  replace H : (some (decide (t136 > 0))) = some r := H
  have A2 := Aside0.mk A20
  clear A20
  obtain rfl := Option.some.inj H
  go_enter Tryd.func22, Tryd.ntmps22
  go_wp2_with (first | ((with_reducible refine gate_dst (N := 1) rfl ?_); refine box_event ?hg (N := 1) ?hd (cs := #[.int .i64 a0_0, .string a0_1, .int .i64 a0_2, .slice A0_3 l0_3.length c0_3, .slice A0_4 l0_4.length c0_4]) (t := 39) ?hr ?_; (case hd => rfl); (case hg => rfl); (case hr => first | (go_simp; done) | (go_simp; rfl)); intro gb135 hg w3 hbox hb; have n0_ := Aside0.mk (below_step (by repeat (first | (with_reducible first | exact HB.out | apply below_alloc | apply pw_below_drewN | apply below_drew1) | exact HB.out)) hb); have n1_ := Aside0.mk (hbox); have n2_ := Aside0.mk ((by rw [hg]; exact (below_size (by repeat (first | (with_reducible first | exact HB.out | apply below_alloc | apply pw_below_drewN | apply below_drew1) | exact HB.out))) : w.heap.size ≤ gb135)); have n3_ := Aside0.mk ((by rw [hg]; exact (below_size (by repeat (first | (with_reducible first | exact HB.out | apply below_alloc | apply pw_below_drewN | apply below_drew1) | exact HB.out))) : w.heap.size ≤ gb135)); clear HB; have HB := n0_; have BK135 := n1_; have GW135 := n2_; have GE135 := n3_; clear n0_ n1_ n2_ n3_; clear hb hbox hg; have hcz4_0 : w3.cell? ⟨gb135, 0, none⟩ = some (.int .i64 a0_0) := (blk_cell BK135.out 0).trans rfl; have hcz4_1 : w3.cell? ⟨gb135, 1, none⟩ = some (.string a0_1) := (blk_cell BK135.out 1).trans rfl; have hcz4_2 : w3.cell? ⟨gb135, 2, none⟩ = some (.int .i64 a0_2) := (blk_cell BK135.out 2).trans rfl; have hcz4_3 : w3.cell? ⟨gb135, 3, none⟩ = some (.slice A0_3 l0_3.length c0_3) := (blk_cell BK135.out 3).trans rfl; have hcz4_4 : w3.cell? ⟨gb135, 4, none⟩ = some (.slice A0_4 l0_4.length c0_4) := (blk_cell BK135.out 4).trans rfl; have hfz4_0 := blk_frozen BK135.out 0; have hfz4_1 := blk_frozen BK135.out 1; have hfz4_2 := blk_frozen BK135.out 2; have hfz4_3 := blk_frozen BK135.out 3; have hfz4_4 := blk_frozen BK135.out 4) | ((with_reducible refine gate_callee (f := 40) rfl ?_); refine goesL_ (some 4) rfl rfl Tryd.func40 (by kernel_rfl) rfl #[.agg #[.int .i64 a0_0, .string a0_1, .int .i64 a0_2, .slice A0_3 l0_3.length c0_3, .slice A0_4 l0_4.length c0_4], .int .i64 6] rfl (by (try simp only [List.map_toArray, List.map_cons, List.map_nil]); first | done | rfl | (simp only [List.length_drop, List.length_take]; rfl)) ?_; (with_reducible refine (spec_l4Look.calls k a0_0 a0_1 a0_2 _ _ l0_3 _ _ l0_4 6 t136 _ ?side1 ?side2 ?side3 ?side4 A2.out).mono ?_); (case side1 => repeat (first | exact (Kd.C_below HR0_3.out HB.out) | (with_reducible refine Kd.C_alloc ?_ _) | (with_reducible refine Kd.C_drewN ?_ _) | (with_reducible refine Kd.C_drew ?_))); (case side2 => exact HC0_3.out); (case side3 => repeat (first | exact (Kd.C_below HR0_4.out HB.out) | (with_reducible refine Kd.C_alloc ?_ _) | (with_reducible refine Kd.C_drewN ?_ _) | (with_reducible refine Kd.C_drew ?_))); (case side4 => exact HC0_4.out); rintro e w5 ⟨rfl, hb⟩; refine ⟨_, rfl, ?_⟩; have n0_ := Aside0.mk (blk_below (g := gb135) (o := .cells #[.int .i64 a0_0, .string a0_1, .int .i64 a0_2, .slice A0_3 l0_3.length c0_3, .slice A0_4 l0_4.length c0_4] 39 (0, 0)) (by (with_reducible repeat (first | refine blk_drewN ?_ _ | refine blk_drew ?_ | refine blk_alloc ?_ _)); exact BK135.out) hb); have n1_ := Aside0.mk (below_step (by repeat (first | (with_reducible first | exact HB.out | apply below_alloc | apply pw_below_drewN | apply below_drew1 | refine below_set ?_ GE135.out) | exact HB.out)) hb); clear BK135; clear HB; have BK135 := n0_; have HB := n1_; clear n0_ n1_; (try clear hb); (try clear hb2); (try clear hk); (try clear hi)))
  go_ret
  exact ⟨by first | rfl | (simp [errW_none, errW_some] <;> rfl) | (simp [*, errW_none, errW_some] <;> rfl), by repeat (first | (with_reducible first | exact HB.out | apply below_alloc | apply pw_below_drewN | apply below_drew1 | refine below_set ?_ GE135.out) | exact HB.out)⟩

end Go.Proofs.YtgcgkcchoghkaaaDoor.G

/- PValB -/
/-
  ValueOk, both.
-/
namespace Go.Proofs.YtgcgkcchoghkaaaDoor.G
open Go.RowKit Go.Proofs.YtgcgkcchoghkaaaDoorW.PrintWords Go.Proofs.YtgcgkcchoghkaaaDoorW.PrintLast Go.Proofs.YtgcgkcchoghkaaaDoorW.PrintMore
set_option linter.unusedVariables false
set_option linter.unusedSimpArgs false
def valB (x : IVal) : Bool := decide (0 < lookN 6 x)
theorem specValueOk_ev {n : Nat} (x : IVal) (h : SmI n x) : Ev (fun k => spec_ValueOk.f k x.f0 x.f1 x.f2 x.f3 x.f4) (valB x) := by
  unfold spec_ValueOk.f valB
  exact Ev.bind (l4Look_ev 6 n x (by omega) h) (ev_some (by rw [decide_eq_decide]; omega))
theorem implValueOk_ev {n : Nat} (x : IVal) (h : SmI n x) : Ev (fun k => impl_ValueOk.f k x.f0 x.f1 x.f2 x.f3 x.f4) (valB x) := by
  unfold impl_ValueOk.f valB
  refine Ev.bind (measured_ev 6 n x (by omega) h) (ev_some ?_)
  have := lookN_le 6 x
  unfold bigN
  rw [decide_eq_decide]
  split <;> omega
end Go.Proofs.YtgcgkcchoghkaaaDoor.G
