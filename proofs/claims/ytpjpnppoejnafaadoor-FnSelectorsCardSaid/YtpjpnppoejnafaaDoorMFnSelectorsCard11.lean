import Derived.Test.YtpjpnppoejnafaaDoorMFnSelectorsCard1
import Derived.Test.YtpjpnppoejnafaaDoorMFnSelectorsCard6
import Derived.Test.YtpjpnppoejnafaaDoorMFnSelectorsCard10
import Derived.Test.YtpjpnppoejnafaaDoorMFnSelectorsCard7
import Derived.Test.YtpjpnppoejnafaaDoorProg
import Derived.Shelf.Vars
import Derived.Test.YtpjpnppoejnafaaDoorShelf
import Derived.Lib.SplitLaws
import Derived.Test.YtpjpnppoejnafaaDoorMFnSelectorsCard3
import Derived.Test.YtpjpnppoejnafaaDoorMFnSelectorsCard5
import Derived.Test.YtpjpnppoejnafaaDoorMFnSelectorsCard4
/- G28 -/
-- Laid by wip/g/gprint.py out of the translation, by the kit's print program. Lean checks it.
namespace Go.Proofs.YtpjpnppoejnafaaDoor.G
open Go.RowKit Go.Proofs.YtpjpnppoejnafaaDoorW.PrintWords Go.Proofs.YtpjpnppoejnafaaDoorW.PrintLast Go.Proofs.YtpjpnppoejnafaaDoorW.PrintMore
attribute [local go_sem] max2_int min2_int max_two min_two max_three min_three max_four min_four   -- for this text's walks alone
set_option linter.unusedVariables false
set_option linter.unusedSimpArgs false

/-! ### impl_SelectorText: function 28 -/
def impl_SelectorText.l0 : Nat → List ByteArray → List (S59) → Int → Int → Option (ByteArray)
 | 0, _, _, _, _ => none
 | k + 1, x3, x12, x13, x14 => if x14 < x13 then (if 0 ≤ x14 then (if x14 < (x12.length : Int) then ((strings_Join.f ((rd_T59 x12 x14).f2) (⟨#[32]⟩ : ByteArray)).bind fun t283 => (if ((rd_T59 x12 x14).f0) = 1 then (if 1 + t283.size ≤ 9223372036854775807 then (if ((rd_T59 x12 x14).f1).size + ((⟨#[61]⟩ : ByteArray) ++ t283).size ≤ 9223372036854775807 then (if x3.length < 8796093022208 then (impl_SelectorText.l0 k (x3 ++ [((rd_T59 x12 x14).f1) ++ ((⟨#[61]⟩ : ByteArray) ++ t283)]) x12 x13 (wrap64 (x14 + 1))) else (none)) else (none)) else (none)) else (if ((rd_T59 x12 x14).f0) = 2 then (if 2 + t283.size ≤ 9223372036854775807 then (if ((rd_T59 x12 x14).f1).size + ((⟨#[33, 61]⟩ : ByteArray) ++ t283).size ≤ 9223372036854775807 then (if x3.length < 8796093022208 then (impl_SelectorText.l0 k (x3 ++ [((rd_T59 x12 x14).f1) ++ ((⟨#[33, 61]⟩ : ByteArray) ++ t283)]) x12 x13 (wrap64 (x14 + 1))) else (none)) else (none)) else (none)) else (if ((rd_T59 x12 x14).f0) = 3 then (if 5 + t283.size ≤ 9223372036854775807 then (if ((⟨#[32, 105, 110, 32, 40]⟩ : ByteArray) ++ t283).size + 1 ≤ 9223372036854775807 then (if ((rd_T59 x12 x14).f1).size + (((⟨#[32, 105, 110, 32, 40]⟩ : ByteArray) ++ t283) ++ (⟨#[41]⟩ : ByteArray)).size ≤ 9223372036854775807 then (if x3.length < 8796093022208 then (impl_SelectorText.l0 k (x3 ++ [((rd_T59 x12 x14).f1) ++ (((⟨#[32, 105, 110, 32, 40]⟩ : ByteArray) ++ t283) ++ (⟨#[41]⟩ : ByteArray))]) x12 x13 (wrap64 (x14 + 1))) else (none)) else (none)) else (none)) else (none)) else (if ((rd_T59 x12 x14).f0) = 5 then (if 1 + ((rd_T59 x12 x14).f1).size ≤ 9223372036854775807 then (if x3.length < 8796093022208 then (impl_SelectorText.l0 k (x3 ++ [(⟨#[33]⟩ : ByteArray) ++ ((rd_T59 x12 x14).f1)]) x12 x13 (wrap64 (x14 + 1))) else (none)) else (none)) else (if x3.length < 8796093022208 then (impl_SelectorText.l0 k (x3 ++ [(rd_T59 x12 x14).f1]) x12 x13 (wrap64 (x14 + 1))) else (none))))))) else (none)) else (none)) else ((strings_Join.f x3 (⟨#[44]⟩ : ByteArray)).bind fun t280 => (some t280))
def impl_SelectorText.f (k : Nat) (l0 : List (S59)) : Option (ByteArray) := (impl_SelectorOk.f k l0).bind fun t276 => (if t276 = true then (impl_SelectorText.l0 k (([] : List ByteArray)) l0 (l0.length : Int) 0) else (some (⟨#[]⟩ : ByteArray)))
set_option maxHeartbeats 8000000 in
set_option maxRecDepth 100000 in
theorem impl_SelectorText.calls (k : Nat) (A0 : Option Addr) (c0 : Nat) (l0 : List (S59)) (r : ByteArray) (w : World) (hr0 : Kd.C k59 w A0 l0.length l0) (hc0 : l0.length ≤ c0) (h : impl_SelectorText.f k l0 = some r) :
  Calls Tryd.prog 28 #[.slice A0 l0.length c0] w fun e w' => e = .returned (.string r) ∧ Below w.heap.size w w' := by
 have hu59 := Tryd.underlying59
 have HR0 := Aside0.mk hr0
 have HC0 := Aside0.mk hc0
 clear hr0 hc0
 have HB := Aside0.mk (Below.refl w.heap.size w)
 unfold impl_SelectorText.f at h; have H := h
 clear h
 replace H := Option.bind_eq_some_iff.mp H
 obtain ⟨t276, A20, H⟩ := H
 try dsimp only at H
 have A2 := Aside0.mk A20
 clear A20
 by_cases c3 : t276 = true
 ·subst c3
  have H1 : (impl_SelectorText.l0 k (([] : List ByteArray)) l0 (l0.length : Int) 0) = some r := by rw [if_pos rfl] at H; exact H
  clear H
  have H := H1
  clear H1
  obtain ⟨y277, hy277⟩ : ∃ y_ : List ByteArray, y_ = (([] : List ByteArray)) := ⟨_, rfl⟩
  replace H : (impl_SelectorText.l0 k y277 l0 (l0.length : Int) 0) = some r := by first | (rw [hy277]; with_reducible exact H) | (have H2_ := (Option.bind_some _ _).symm.trans H; rw [hy277]; with_reducible exact H2_) | (have H2_ := (Option.bind_some _ _).symm.trans H; with_reducible exact H2_) | with_reducible exact H | (rw [hy277]; exact H) | exact H
  have Ny277 := Aside0.mk hy277
  clear hy277
  have H' := Aside0.mk H
  clear H
  go_enter Tryd.func28, Tryd.ntmps28
  go_wp2_with (first | ((with_reducible refine gate_callee (f := 30) rfl ?_); refine goesL_ (some 9) rfl rfl Tryd.func30 (by kernel_rfl) rfl #[.slice A0 l0.length c0] rfl (by (try simp only [List.map_toArray, List.map_cons, List.map_nil]); first | done | rfl | (simp only [List.length_drop, List.length_take]; rfl)) ?_; (with_reducible refine (impl_SelectorOk.calls k _ _ l0 true _ (qC0 HR0) HC0.out A2.out).mono ?_); rintro e w4 ⟨rfl, hb⟩; refine ⟨_, rfl, ?_⟩; have n0_ := Aside0.mk (below_step (qB HB) hb); clear HB; have HB := n0_; clear n0_; (try clear hb); (try clear hb2); (try clear hk); (try clear hi)) | ((with_reducible refine gate_dst (N := 11) rfl ?_); refine Kd.R_lit Kd.string _ 9 ?hg (N := 11) ?hd (xs := ([] : List ByteArray)) (inner := []) (ok := fun _ => True) (okp := fun _ => True) ?hr ?hp (fun _ hk => hk) trivial (Below.refl _ _) (Nat.le_refl _) (by simp) ?_; (case hd => rfl); (case hg => rfl); (case hr => go_simp); (case hp => exact (Reps.none _ _)); intro v278 w5 ho6 hb hg_ hnew_; clear hg_ hnew_; (first | rw [← Ny277.out] at ho6 | (simp only [Int.reduceToNat] at ho6; rw [← Ny277.out] at ho6)); have n0_ := Aside0.mk (Kd.R_lower ho6 (below_size (qB HB))); have n1_ := Aside0.mk (below_step (qB HB) hb); clear HB; have HO279 := n0_; have HB := n1_; clear n0_ n1_; clear hb ho6))
  go_loopg [3, 14] k (fun kq v3 v14 w' => ∃ (x3_1 : List ByteArray) (x14_1 : Int), v14 = .int .i64 x14_1 ∧ Aside0 (impl_SelectorText.l0 kq x3_1 l0 (l0.length : Int) x14_1 = some r) ∧ Aside0 (kq ≤ k) ∧ Aside0 (Kd.R Kd.string 9 w' w.heap.size (fun _ => True) v3 x3_1) ∧ Aside0 (Below w.heap.size w w'))
  case atStart => exact ⟨(y277), (0), (by first | rfl | (simp; done) | (simp [*]; done)), H', ⟨Nat.le_refl _⟩, ⟨by (with_reducible repeat (first | apply Kd.R_alloc | apply Kd.R_drewN | apply Kd.R_drew)); exact HO279.out⟩, ⟨qB HB⟩⟩
  case round =>
   clear H'
   try clear c2
   try clear p2
   try clear c3
   obtain ⟨x3_1, x14_1, rfl, HA, HK1, HO_3, HB⟩ := hrel
   cases gk with
   | zero => exact absurd HA.out (by simp [impl_SelectorText.l0])
   | succ k1 =>
    have H := HA.out
    clear HA
    simp only [impl_SelectorText.l0] at H
    by_cases c7 : x14_1 < (l0.length : Int)
    ·rw [if_pos c7] at H
     have c7b0 : decide (x14_1 < (l0.length : Int)) = true := decide_eq_true c7
     clear c7
     by_cases c8 : 0 ≤ x14_1
     ·rw [if_pos c8] at H
      have c8b0 : decide (0 ≤ x14_1) = true := decide_eq_true c8
      clear c8
      by_cases c9 : x14_1 < (l0.length : Int)
      ·rw [if_pos c9] at H
       have c9b0 : decide (x14_1 < (l0.length : Int)) = true := decide_eq_true c9
       clear c9
       replace H := Option.bind_eq_some_iff.mp H
       obtain ⟨t283, A100, H⟩ := H
       try dsimp only at H
       have A10 := Aside0.mk A100
       clear A100
       by_cases c11 : ((rd_T59 l0 x14_1).f0) = 1
       ·rw [if_pos c11] at H
        have c11b0 : (((rd_T59 l0 x14_1).f0) == 1) = true := beq_iff_eq.mpr c11
        have c11b1 : (((rd_T59 l0 x14_1).f0) != 1) = false := bne_eq_false_iff_eq.mpr c11
        clear c11
        by_cases c12 : 1 + t283.size ≤ 9223372036854775807
        ·rw [if_pos c12] at H
         have c12b0 := eq_true c12
         have c12b1 : decide (1 + t283.size ≤ 9223372036854775807) = true := decide_eq_true c12
         try have c12b2 : (9223372036854775807 < 1 + t283.size) = False := eq_false (Nat.not_lt.2 c12)
         by_cases c13 : ((rd_T59 l0 x14_1).f1).size + ((⟨#[61]⟩ : ByteArray) ++ t283).size ≤ 9223372036854775807
         ·rw [if_pos c13] at H
          have c13b0 := eq_true c13
          have c13b1 : decide (((rd_T59 l0 x14_1).f1).size + ((⟨#[61]⟩ : ByteArray) ++ t283).size ≤ 9223372036854775807) = true := decide_eq_true c13
          try have c13b2 : (9223372036854775807 < ((rd_T59 l0 x14_1).f1).size + ((⟨#[61]⟩ : ByteArray) ++ t283).size) = False := eq_false (Nat.not_lt.2 c13)
          by_cases c14 : x3_1.length < 8796093022208
          ·rw [if_pos c14] at H
           have LMc14 := Aside0.mk c14
           clear c14
           obtain ⟨y284, hy284⟩ : ∃ y_ : List ByteArray, y_ = (x3_1 ++ [((rd_T59 l0 x14_1).f1) ++ ((⟨#[61]⟩ : ByteArray) ++ t283)]) := ⟨_, rfl⟩
           replace H : (impl_SelectorText.l0 k1 y284 l0 (l0.length : Int) (wrap64 (x14_1 + 1))) = some r := by first | (rw [hy284]; with_reducible exact H) | (have H2_ := (Option.bind_some _ _).symm.trans H; rw [hy284]; with_reducible exact H2_) | (have H2_ := (Option.bind_some _ _).symm.trans H; with_reducible exact H2_) | with_reducible exact H | (rw [hy284]; exact H) | exact H
           have Ny284 := Aside0.mk hy284
           clear hy284
           have H' := Aside0.mk H
           clear H
           have p281 : 0 ≤ (x14_1 : Int) := of_decide_eq_true (by first | (with_reducible assumption) | assumption)
           have q281 : x14_1 < (l0.length : Int) := of_decide_eq_true (by first | (with_reducible assumption) | assumption)
           obtain ⟨ad281, A281_2, c281_2, e281, hx281_0, hx281_1, hx281_2, hl281_2, hi281_2⟩ := at_T59 HR0.out x14_1 p281 q281
           cases e281
           replace hx281_0 := (HB.out.cell (World.block_lt_of_cell? w _ hx281_0)).trans hx281_0
           replace hx281_1 := (HB.out.cell (World.block_lt_of_cell? w _ hx281_1)).trans hx281_1
           replace hx281_2 := (HB.out.cell (World.block_lt_of_cell? w _ hx281_2)).trans hx281_2
           have HR281_2 := Aside0.mk hi281_2
           have HC281_2 := Aside0.mk hl281_2
           clear hi281_2 hl281_2
           replace p281 := eq_true p281
           replace q281 := eq_true q281
           go_wp2_with (first | ((with_reducible refine gate_dst (N := 5) rfl ?_); refine box_event ?hg (N := 5) ?hd (cs := #[.int .i64 0, .string (⟨#[]⟩ : ByteArray), .slice none 0 0]) (t := 59) ?hr ?_; (case hd => rfl); (case hg => rfl); (case hr => first | (go_simp; done) | (go_simp; rfl)); intro gb282 hg w15 hbox hb; have n0_ := Aside0.mk (Kd.R_below (by (with_reducible repeat (first | apply Kd.R_alloc | apply Kd.R_drewN | apply Kd.R_drew)); exact HO_3.out) hb); have n1_ := Aside0.mk (below_step (by repeat (first | (with_reducible first | exact HB.out | apply below_alloc | apply pw_below_drewN | apply below_drew1) | exact HB.out)) hb); have n2_ := Aside0.mk (hbox); have n3_ := Aside0.mk ((by rw [hg]; exact (below_size (by repeat (first | (with_reducible first | exact HB.out | apply below_alloc | apply pw_below_drewN | apply below_drew1) | exact HB.out))) : w.heap.size ≤ gb282)); have n4_ := Aside0.mk ((by rw [hg]; exact (below_size (by repeat (first | (with_reducible first | exact HB.out | apply below_alloc | apply pw_below_drewN | apply below_drew1) | exact HB.out))) : w.heap.size ≤ gb282)); clear HO_3; clear HB; have HO_3 := n0_; have HB := n1_; have BK282 := n2_; have GW282 := n3_; have GE282 := n4_; clear n0_ n1_ n2_ n3_ n4_; clear hb hbox hg; have hcz16_0 : w15.cell? ⟨gb282, 0, none⟩ = some (.int .i64 0) := (blk_cell BK282.out 0).trans rfl; have hcz16_1 : w15.cell? ⟨gb282, 1, none⟩ = some (.string (⟨#[]⟩ : ByteArray)) := (blk_cell BK282.out 1).trans rfl; have hcz16_2 : w15.cell? ⟨gb282, 2, none⟩ = some (.slice none 0 0) := (blk_cell BK282.out 2).trans rfl; have hfz16_0 := blk_frozen BK282.out 0; have hfz16_1 := blk_frozen BK282.out 1; have hfz16_2 := blk_frozen BK282.out 2) | ((with_reducible refine gate_callee (f := 59) rfl ?_); refine goesL_ (some 20) rfl rfl Tryd.func59 (by kernel_rfl) rfl #[.slice A281_2 ((rd_T59 l0 x14_1).f2).length c281_2, .string (⟨#[32]⟩ : ByteArray)] rfl (by (try simp only [List.map_toArray, List.map_cons, List.map_nil]); first | done | rfl | (simp only [List.length_drop, List.length_take]; rfl)) ?_; (with_reducible refine (strings_Join.calls _ _ ((rd_T59 l0 x14_1).f2) (⟨#[32]⟩ : ByteArray) t283 _ ?side1 ?side2 A10.out).mono ?_); (case side1 => exact Kd.C_below HR281_2.out (by repeat (first | (with_reducible first | exact HB.out | apply below_alloc | apply pw_below_drewN | apply below_drew1 | refine below_set ?_ GE282.out) | exact HB.out))); (case side2 => exact HC281_2.out); rintro e w17 ⟨rfl, hb⟩; refine ⟨_, rfl, ?_⟩; have n0_ := Aside0.mk (Kd.R_below (by (with_reducible repeat (first | apply Kd.R_alloc | apply Kd.R_drewN | apply Kd.R_drew)); exact (Kd.R_mono (Kd.R_far (p := ⟨gb282, 2, none⟩) (Kd.R_far (p := ⟨gb282, 1, none⟩) (Kd.R_far (p := ⟨gb282, 0, none⟩) (Kd.R_types HO_3.out BK282.out (by decide)) (fun _ hk => hk.2) (.int .i64 ((rd_T59 l0 x14_1).f0))) (fun _ hk => hk.2) (.string ((rd_T59 l0 x14_1).f1))) (fun _ hk => hk.2) (.slice A281_2 ((rd_T59 l0 x14_1).f2).length c281_2)) (fun _ h_ => h_.1))) hb); have n1_ := Aside0.mk (blk_below (g := gb282) (o := .cells #[.int .i64 ((rd_T59 l0 x14_1).f0), .string ((rd_T59 l0 x14_1).f1), .slice A281_2 ((rd_T59 l0 x14_1).f2).length c281_2] 59 (0, 0)) (by (with_reducible repeat (first | refine blk_drewN ?_ _ | refine blk_drew ?_ | refine blk_alloc ?_ _)); refine blk_put (cs := #[.int .i64 ((rd_T59 l0 x14_1).f0), .string ((rd_T59 l0 x14_1).f1), .slice none 0 0]) ?_ 2 _ rfl; (with_reducible repeat (first | refine blk_drewN ?_ _ | refine blk_drew ?_ | refine blk_alloc ?_ _)); refine blk_put (cs := #[.int .i64 ((rd_T59 l0 x14_1).f0), .string (⟨#[]⟩ : ByteArray), .slice none 0 0]) ?_ 1 _ rfl; (with_reducible repeat (first | refine blk_drewN ?_ _ | refine blk_drew ?_ | refine blk_alloc ?_ _)); refine blk_put (cs := #[.int .i64 0, .string (⟨#[]⟩ : ByteArray), .slice none 0 0]) ?_ 0 _ rfl; (with_reducible repeat (first | refine blk_drewN ?_ _ | refine blk_drew ?_ | refine blk_alloc ?_ _)); exact BK282.out) hb); have n2_ := Aside0.mk (below_step (by repeat (first | (with_reducible first | exact HB.out | apply below_alloc | apply pw_below_drewN | apply below_drew1 | refine below_set ?_ GE282.out) | exact HB.out)) hb); clear HO_3; clear BK282; clear HB; have HO_3 := n0_; have BK282 := n1_; have HB := n2_; clear n0_ n1_ n2_; (try clear hb); (try clear hb2); (try clear hk); (try clear hi); have hcz18_0 : w17.cell? ⟨gb282, 0, none⟩ = some (.int .i64 ((rd_T59 l0 x14_1).f0)) := (blk_cell BK282.out 0).trans rfl; have hcz18_1 : w17.cell? ⟨gb282, 1, none⟩ = some (.string ((rd_T59 l0 x14_1).f1)) := (blk_cell BK282.out 1).trans rfl; have hcz18_2 : w17.cell? ⟨gb282, 2, none⟩ = some (.slice A281_2 ((rd_T59 l0 x14_1).f2).length c281_2) := (blk_cell BK282.out 2).trans rfl; have hfz18_0 := blk_frozen BK282.out 0; have hfz18_1 := blk_frozen BK282.out 1; have hfz18_2 := blk_frozen BK282.out 2) | ((with_reducible refine gate_builtin (b := .append) (xs := #[.tmp 48, .tmp 50]) rfl ?_); at_builtin; refine Kd.R_append Kd.string (w0 := w) w.heap.size rfl (.tmp 48) (.tmp 50) 51 9 (.string ⟨#[]⟩) 16 rfl Tryd.underlying51 info9 rfl (by decide) (by omega) u3 x3_1 (((rd_T59 l0 x14_1).f1) ++ ((⟨#[61]⟩ : ByteArray) ++ t283)) [.string (((rd_T59 l0 x14_1).f1) ++ ((⟨#[61]⟩ : ByteArray) ++ t283))] (fun _ => True) (fun _ => False) rfl rfl ?aP (fun _ hk => hk.elim) ?aF ?aO ?aB ?aS ?aL ?_; (case aP => exact rfl); (case aB => exact (by repeat (first | (with_reducible first | exact HB.out | apply below_alloc | apply pw_below_drewN | apply below_drew1 | refine below_set ?_ GE282.out) | exact HB.out))); (case aF => exact (fun _ _ => trivial)); (case aO => exact (by (with_reducible repeat (first | apply Kd.R_alloc | apply Kd.R_drewN | apply Kd.R_drew)); exact HO_3.out)); (case aS => exact (below_size (by repeat (first | (with_reducible first | exact HB.out | apply below_alloc | apply pw_below_drewN | apply below_drew1 | refine below_set ?_ GE282.out) | exact HB.out)))); (case aL => have := LMc14.out; omega); intro v285 w19 ho hb hg hat; rw [← Ny284.out] at ho; have n0_ := Aside0.mk (blk_grown (g := gb282) (o := .cells #[.int .i64 ((rd_T59 l0 x14_1).f0), .string ((rd_T59 l0 x14_1).f1), .slice A281_2 ((rd_T59 l0 x14_1).f2).length c281_2] 59 (0, 0)) (by (with_reducible repeat (first | refine blk_drewN ?_ _ | refine blk_drew ?_ | refine blk_alloc ?_ _)); exact BK282.out) hg (Kd.R_ne HO_3.out BK282.out (by decide))); have n1_ := Aside0.mk (hb); have n2_ := Aside0.mk (ho); clear BK282; clear HB; clear HO_3; have BK282 := n0_; have HB := n1_; have HO286 := n2_; clear n0_ n1_ n2_; clear ho hb hg hat))
           go_roundg k1
           case measure => have := HK1.out; omega
           case rel => exact ⟨(y284), (wrap64 (x14_1 + 1)), (by first | rfl | (simp; done) | (simp [*]; done)), H', ⟨by have := HK1.out; omega⟩, ⟨by (with_reducible repeat (first | apply Kd.R_alloc | apply Kd.R_drewN | apply Kd.R_drew)); exact HO286.out⟩, ⟨qB HB⟩⟩
          ·rw [if_neg c14] at H
           exact absurd H (by simp)
         ·rw [if_neg c13] at H
          exact absurd H (by simp)
        ·rw [if_neg c12] at H
         exact absurd H (by simp)
       ·rw [if_neg c11] at H
        have c11b0 : (((rd_T59 l0 x14_1).f0) == 1) = false := beq_eq_false_iff_ne.mpr c11
        have c11b1 : (((rd_T59 l0 x14_1).f0) != 1) = true := bne_iff_ne.mpr c11
        by_cases c20 : ((rd_T59 l0 x14_1).f0) = 2
        ·rw [if_pos c20] at H
         have c20b0 : (((rd_T59 l0 x14_1).f0) == 2) = true := beq_iff_eq.mpr c20
         have c20b1 : (((rd_T59 l0 x14_1).f0) != 2) = false := bne_eq_false_iff_eq.mpr c20
         clear c20
         by_cases c21 : 2 + t283.size ≤ 9223372036854775807
         ·rw [if_pos c21] at H
          have c21b0 := eq_true c21
          have c21b1 : decide (2 + t283.size ≤ 9223372036854775807) = true := decide_eq_true c21
          try have c21b2 : (9223372036854775807 < 2 + t283.size) = False := eq_false (Nat.not_lt.2 c21)
          by_cases c22 : ((rd_T59 l0 x14_1).f1).size + ((⟨#[33, 61]⟩ : ByteArray) ++ t283).size ≤ 9223372036854775807
          ·rw [if_pos c22] at H
           have c22b0 := eq_true c22
           have c22b1 : decide (((rd_T59 l0 x14_1).f1).size + ((⟨#[33, 61]⟩ : ByteArray) ++ t283).size ≤ 9223372036854775807) = true := decide_eq_true c22
           try have c22b2 : (9223372036854775807 < ((rd_T59 l0 x14_1).f1).size + ((⟨#[33, 61]⟩ : ByteArray) ++ t283).size) = False := eq_false (Nat.not_lt.2 c22)
           by_cases c23 : x3_1.length < 8796093022208
           ·rw [if_pos c23] at H
            have LMc23 := Aside0.mk c23
            clear c23
            obtain ⟨y287, hy287⟩ : ∃ y_ : List ByteArray, y_ = (x3_1 ++ [((rd_T59 l0 x14_1).f1) ++ ((⟨#[33, 61]⟩ : ByteArray) ++ t283)]) := ⟨_, rfl⟩
            replace H : (impl_SelectorText.l0 k1 y287 l0 (l0.length : Int) (wrap64 (x14_1 + 1))) = some r := by first | (rw [hy287]; with_reducible exact H) | (have H2_ := (Option.bind_some _ _).symm.trans H; rw [hy287]; with_reducible exact H2_) | (have H2_ := (Option.bind_some _ _).symm.trans H; with_reducible exact H2_) | with_reducible exact H | (rw [hy287]; exact H) | exact H
            have Ny287 := Aside0.mk hy287
            clear hy287
            have H' := Aside0.mk H
            clear H
            have p281 : 0 ≤ (x14_1 : Int) := of_decide_eq_true (by first | (with_reducible assumption) | assumption)
            have q281 : x14_1 < (l0.length : Int) := of_decide_eq_true (by first | (with_reducible assumption) | assumption)
            obtain ⟨ad281, A281_2, c281_2, e281, hx281_0, hx281_1, hx281_2, hl281_2, hi281_2⟩ := at_T59 HR0.out x14_1 p281 q281
            cases e281
            replace hx281_0 := (HB.out.cell (World.block_lt_of_cell? w _ hx281_0)).trans hx281_0
            replace hx281_1 := (HB.out.cell (World.block_lt_of_cell? w _ hx281_1)).trans hx281_1
            replace hx281_2 := (HB.out.cell (World.block_lt_of_cell? w _ hx281_2)).trans hx281_2
            have HR281_2 := Aside0.mk hi281_2
            have HC281_2 := Aside0.mk hl281_2
            clear hi281_2 hl281_2
            replace p281 := eq_true p281
            replace q281 := eq_true q281
            go_wp2_with (first | ((with_reducible refine gate_dst (N := 5) rfl ?_); refine box_event ?hg (N := 5) ?hd (cs := #[.int .i64 0, .string (⟨#[]⟩ : ByteArray), .slice none 0 0]) (t := 59) ?hr ?_; (case hd => rfl); (case hg => rfl); (case hr => first | (go_simp; done) | (go_simp; rfl)); intro gb282 hg w24 hbox hb; have n0_ := Aside0.mk (Kd.R_below (by (with_reducible repeat (first | apply Kd.R_alloc | apply Kd.R_drewN | apply Kd.R_drew)); exact HO_3.out) hb); have n1_ := Aside0.mk (below_step (by repeat (first | (with_reducible first | exact HB.out | apply below_alloc | apply pw_below_drewN | apply below_drew1) | exact HB.out)) hb); have n2_ := Aside0.mk (hbox); have n3_ := Aside0.mk ((by rw [hg]; exact (below_size (by repeat (first | (with_reducible first | exact HB.out | apply below_alloc | apply pw_below_drewN | apply below_drew1) | exact HB.out))) : w.heap.size ≤ gb282)); have n4_ := Aside0.mk ((by rw [hg]; exact (below_size (by repeat (first | (with_reducible first | exact HB.out | apply below_alloc | apply pw_below_drewN | apply below_drew1) | exact HB.out))) : w.heap.size ≤ gb282)); clear HO_3; clear HB; have HO_3 := n0_; have HB := n1_; have BK282 := n2_; have GW282 := n3_; have GE282 := n4_; clear n0_ n1_ n2_ n3_ n4_; clear hb hbox hg; have hcz25_0 : w24.cell? ⟨gb282, 0, none⟩ = some (.int .i64 0) := (blk_cell BK282.out 0).trans rfl; have hcz25_1 : w24.cell? ⟨gb282, 1, none⟩ = some (.string (⟨#[]⟩ : ByteArray)) := (blk_cell BK282.out 1).trans rfl; have hcz25_2 : w24.cell? ⟨gb282, 2, none⟩ = some (.slice none 0 0) := (blk_cell BK282.out 2).trans rfl; have hfz25_0 := blk_frozen BK282.out 0; have hfz25_1 := blk_frozen BK282.out 1; have hfz25_2 := blk_frozen BK282.out 2) | ((with_reducible refine gate_callee (f := 59) rfl ?_); refine goesL_ (some 20) rfl rfl Tryd.func59 (by kernel_rfl) rfl #[.slice A281_2 ((rd_T59 l0 x14_1).f2).length c281_2, .string (⟨#[32]⟩ : ByteArray)] rfl (by (try simp only [List.map_toArray, List.map_cons, List.map_nil]); first | done | rfl | (simp only [List.length_drop, List.length_take]; rfl)) ?_; (with_reducible refine (strings_Join.calls _ _ ((rd_T59 l0 x14_1).f2) (⟨#[32]⟩ : ByteArray) t283 _ ?side1 ?side2 A10.out).mono ?_); (case side1 => exact Kd.C_below HR281_2.out (by repeat (first | (with_reducible first | exact HB.out | apply below_alloc | apply pw_below_drewN | apply below_drew1 | refine below_set ?_ GE282.out) | exact HB.out))); (case side2 => exact HC281_2.out); rintro e w26 ⟨rfl, hb⟩; refine ⟨_, rfl, ?_⟩; have n0_ := Aside0.mk (Kd.R_below (by (with_reducible repeat (first | apply Kd.R_alloc | apply Kd.R_drewN | apply Kd.R_drew)); exact (Kd.R_mono (Kd.R_far (p := ⟨gb282, 2, none⟩) (Kd.R_far (p := ⟨gb282, 1, none⟩) (Kd.R_far (p := ⟨gb282, 0, none⟩) (Kd.R_types HO_3.out BK282.out (by decide)) (fun _ hk => hk.2) (.int .i64 ((rd_T59 l0 x14_1).f0))) (fun _ hk => hk.2) (.string ((rd_T59 l0 x14_1).f1))) (fun _ hk => hk.2) (.slice A281_2 ((rd_T59 l0 x14_1).f2).length c281_2)) (fun _ h_ => h_.1))) hb); have n1_ := Aside0.mk (blk_below (g := gb282) (o := .cells #[.int .i64 ((rd_T59 l0 x14_1).f0), .string ((rd_T59 l0 x14_1).f1), .slice A281_2 ((rd_T59 l0 x14_1).f2).length c281_2] 59 (0, 0)) (by (with_reducible repeat (first | refine blk_drewN ?_ _ | refine blk_drew ?_ | refine blk_alloc ?_ _)); refine blk_put (cs := #[.int .i64 ((rd_T59 l0 x14_1).f0), .string ((rd_T59 l0 x14_1).f1), .slice none 0 0]) ?_ 2 _ rfl; (with_reducible repeat (first | refine blk_drewN ?_ _ | refine blk_drew ?_ | refine blk_alloc ?_ _)); refine blk_put (cs := #[.int .i64 ((rd_T59 l0 x14_1).f0), .string (⟨#[]⟩ : ByteArray), .slice none 0 0]) ?_ 1 _ rfl; (with_reducible repeat (first | refine blk_drewN ?_ _ | refine blk_drew ?_ | refine blk_alloc ?_ _)); refine blk_put (cs := #[.int .i64 0, .string (⟨#[]⟩ : ByteArray), .slice none 0 0]) ?_ 0 _ rfl; (with_reducible repeat (first | refine blk_drewN ?_ _ | refine blk_drew ?_ | refine blk_alloc ?_ _)); exact BK282.out) hb); have n2_ := Aside0.mk (below_step (by repeat (first | (with_reducible first | exact HB.out | apply below_alloc | apply pw_below_drewN | apply below_drew1 | refine below_set ?_ GE282.out) | exact HB.out)) hb); clear HO_3; clear BK282; clear HB; have HO_3 := n0_; have BK282 := n1_; have HB := n2_; clear n0_ n1_ n2_; (try clear hb); (try clear hb2); (try clear hk); (try clear hi); have hcz27_0 : w26.cell? ⟨gb282, 0, none⟩ = some (.int .i64 ((rd_T59 l0 x14_1).f0)) := (blk_cell BK282.out 0).trans rfl; have hcz27_1 : w26.cell? ⟨gb282, 1, none⟩ = some (.string ((rd_T59 l0 x14_1).f1)) := (blk_cell BK282.out 1).trans rfl; have hcz27_2 : w26.cell? ⟨gb282, 2, none⟩ = some (.slice A281_2 ((rd_T59 l0 x14_1).f2).length c281_2) := (blk_cell BK282.out 2).trans rfl; have hfz27_0 := blk_frozen BK282.out 0; have hfz27_1 := blk_frozen BK282.out 1; have hfz27_2 := blk_frozen BK282.out 2) | ((with_reducible refine gate_builtin (b := .append) (xs := #[.tmp 48, .tmp 50]) rfl ?_); at_builtin; refine Kd.R_append Kd.string (w0 := w) w.heap.size rfl (.tmp 48) (.tmp 50) 51 9 (.string ⟨#[]⟩) 16 rfl Tryd.underlying51 info9 rfl (by decide) (by omega) u3 x3_1 (((rd_T59 l0 x14_1).f1) ++ ((⟨#[33, 61]⟩ : ByteArray) ++ t283)) [.string (((rd_T59 l0 x14_1).f1) ++ ((⟨#[33, 61]⟩ : ByteArray) ++ t283))] (fun _ => True) (fun _ => False) rfl rfl ?aP (fun _ hk => hk.elim) ?aF ?aO ?aB ?aS ?aL ?_; (case aP => exact rfl); (case aB => exact (by repeat (first | (with_reducible first | exact HB.out | apply below_alloc | apply pw_below_drewN | apply below_drew1 | refine below_set ?_ GE282.out) | exact HB.out))); (case aF => exact (fun _ _ => trivial)); (case aO => exact (by (with_reducible repeat (first | apply Kd.R_alloc | apply Kd.R_drewN | apply Kd.R_drew)); exact HO_3.out)); (case aS => exact (below_size (by repeat (first | (with_reducible first | exact HB.out | apply below_alloc | apply pw_below_drewN | apply below_drew1 | refine below_set ?_ GE282.out) | exact HB.out)))); (case aL => have := LMc23.out; omega); intro v288 w28 ho hb hg hat; rw [← Ny287.out] at ho; have n0_ := Aside0.mk (blk_grown (g := gb282) (o := .cells #[.int .i64 ((rd_T59 l0 x14_1).f0), .string ((rd_T59 l0 x14_1).f1), .slice A281_2 ((rd_T59 l0 x14_1).f2).length c281_2] 59 (0, 0)) (by (with_reducible repeat (first | refine blk_drewN ?_ _ | refine blk_drew ?_ | refine blk_alloc ?_ _)); exact BK282.out) hg (Kd.R_ne HO_3.out BK282.out (by decide))); have n1_ := Aside0.mk (hb); have n2_ := Aside0.mk (ho); clear BK282; clear HB; clear HO_3; have BK282 := n0_; have HB := n1_; have HO289 := n2_; clear n0_ n1_ n2_; clear ho hb hg hat))
            go_roundg k1
            case measure => have := HK1.out; omega
            case rel => exact ⟨(y287), (wrap64 (x14_1 + 1)), (by first | rfl | (simp; done) | (simp [*]; done)), H', ⟨by have := HK1.out; omega⟩, ⟨by (with_reducible repeat (first | apply Kd.R_alloc | apply Kd.R_drewN | apply Kd.R_drew)); exact HO289.out⟩, ⟨qB HB⟩⟩
           ·rw [if_neg c23] at H
            exact absurd H (by simp)
          ·rw [if_neg c22] at H
           exact absurd H (by simp)
         ·rw [if_neg c21] at H
          exact absurd H (by simp)
        ·rw [if_neg c20] at H
         have c20b0 : (((rd_T59 l0 x14_1).f0) == 2) = false := beq_eq_false_iff_ne.mpr c20
         have c20b1 : (((rd_T59 l0 x14_1).f0) != 2) = true := bne_iff_ne.mpr c20
         by_cases c29 : ((rd_T59 l0 x14_1).f0) = 3
         ·rw [if_pos c29] at H
          have c29b0 : (((rd_T59 l0 x14_1).f0) == 3) = true := beq_iff_eq.mpr c29
          have c29b1 : (((rd_T59 l0 x14_1).f0) != 3) = false := bne_eq_false_iff_eq.mpr c29
          clear c29
          by_cases c30 : 5 + t283.size ≤ 9223372036854775807
          ·rw [if_pos c30] at H
           have c30b0 := eq_true c30
           have c30b1 : decide (5 + t283.size ≤ 9223372036854775807) = true := decide_eq_true c30
           try have c30b2 : (9223372036854775807 < 5 + t283.size) = False := eq_false (Nat.not_lt.2 c30)
           by_cases c31 : ((⟨#[32, 105, 110, 32, 40]⟩ : ByteArray) ++ t283).size + 1 ≤ 9223372036854775807
           ·rw [if_pos c31] at H
            have c31b0 := eq_true c31
            have c31b1 : decide (((⟨#[32, 105, 110, 32, 40]⟩ : ByteArray) ++ t283).size + 1 ≤ 9223372036854775807) = true := decide_eq_true c31
            try have c31b2 : (9223372036854775807 < ((⟨#[32, 105, 110, 32, 40]⟩ : ByteArray) ++ t283).size + 1) = False := eq_false (Nat.not_lt.2 c31)
            have c31z0 : ((⟨#[32, 105, 110, 32, 40]⟩ : ByteArray) ++ t283).size < 9223372036854775807 := by have h_ := c31; simp only [ByteArray.size_append] at h_ ⊢; first | omega | (simp only [ByteArray.size] at h_ ⊢; simp at h_ ⊢; omega)
            have c31z0a := eq_true c31z0
            have c31z0b := decide_eq_true c31z0
            have c31z0c : (9223372036854775807 ≤ ((⟨#[32, 105, 110, 32, 40]⟩ : ByteArray) ++ t283).size) = False := eq_false (by omega)
            have c31z1 : 5 + t283.size < 9223372036854775807 := by have h_ := c31; simp only [ByteArray.size_append] at h_ ⊢; first | omega | (simp only [ByteArray.size] at h_ ⊢; simp at h_ ⊢; omega)
            have c31z1a := eq_true c31z1
            have c31z1b := decide_eq_true c31z1
            have c31z1c : (9223372036854775807 ≤ 5 + t283.size) = False := eq_false (by omega)
            have c31z2 : 5 + t283.size + 1 ≤ 9223372036854775807 := by have h_ := c31; simp only [ByteArray.size_append] at h_ ⊢; first | omega | (simp only [ByteArray.size] at h_ ⊢; simp at h_ ⊢; omega)
            have c31z2a := eq_true c31z2
            have c31z2b := decide_eq_true c31z2
            have c31z2c : (9223372036854775807 < 5 + t283.size + 1) = False := eq_false (by omega)
            by_cases c32 : ((rd_T59 l0 x14_1).f1).size + (((⟨#[32, 105, 110, 32, 40]⟩ : ByteArray) ++ t283) ++ (⟨#[41]⟩ : ByteArray)).size ≤ 9223372036854775807
            ·rw [if_pos c32] at H
             have c32b0 := eq_true c32
             have c32b1 : decide (((rd_T59 l0 x14_1).f1).size + (((⟨#[32, 105, 110, 32, 40]⟩ : ByteArray) ++ t283) ++ (⟨#[41]⟩ : ByteArray)).size ≤ 9223372036854775807) = true := decide_eq_true c32
             try have c32b2 : (9223372036854775807 < ((rd_T59 l0 x14_1).f1).size + (((⟨#[32, 105, 110, 32, 40]⟩ : ByteArray) ++ t283) ++ (⟨#[41]⟩ : ByteArray)).size) = False := eq_false (Nat.not_lt.2 c32)
             by_cases c33 : x3_1.length < 8796093022208
             ·rw [if_pos c33] at H
              have LMc33 := Aside0.mk c33
              clear c33
              obtain ⟨y290, hy290⟩ : ∃ y_ : List ByteArray, y_ = (x3_1 ++ [((rd_T59 l0 x14_1).f1) ++ (((⟨#[32, 105, 110, 32, 40]⟩ : ByteArray) ++ t283) ++ (⟨#[41]⟩ : ByteArray))]) := ⟨_, rfl⟩
              replace H : (impl_SelectorText.l0 k1 y290 l0 (l0.length : Int) (wrap64 (x14_1 + 1))) = some r := by first | (rw [hy290]; with_reducible exact H) | (have H2_ := (Option.bind_some _ _).symm.trans H; rw [hy290]; with_reducible exact H2_) | (have H2_ := (Option.bind_some _ _).symm.trans H; with_reducible exact H2_) | with_reducible exact H | (rw [hy290]; exact H) | exact H
              have Ny290 := Aside0.mk hy290
              clear hy290
              have H' := Aside0.mk H
              clear H
              have p281 : 0 ≤ (x14_1 : Int) := of_decide_eq_true (by first | (with_reducible assumption) | assumption)
              have q281 : x14_1 < (l0.length : Int) := of_decide_eq_true (by first | (with_reducible assumption) | assumption)
              obtain ⟨ad281, A281_2, c281_2, e281, hx281_0, hx281_1, hx281_2, hl281_2, hi281_2⟩ := at_T59 HR0.out x14_1 p281 q281
              cases e281
              replace hx281_0 := (HB.out.cell (World.block_lt_of_cell? w _ hx281_0)).trans hx281_0
              replace hx281_1 := (HB.out.cell (World.block_lt_of_cell? w _ hx281_1)).trans hx281_1
              replace hx281_2 := (HB.out.cell (World.block_lt_of_cell? w _ hx281_2)).trans hx281_2
              have HR281_2 := Aside0.mk hi281_2
              have HC281_2 := Aside0.mk hl281_2
              clear hi281_2 hl281_2
              replace p281 := eq_true p281
              replace q281 := eq_true q281
              go_wp2_with (first | ((with_reducible refine gate_dst (N := 5) rfl ?_); refine box_event ?hg (N := 5) ?hd (cs := #[.int .i64 0, .string (⟨#[]⟩ : ByteArray), .slice none 0 0]) (t := 59) ?hr ?_; (case hd => rfl); (case hg => rfl); (case hr => first | (go_simp; done) | (go_simp; rfl)); intro gb282 hg w34 hbox hb; have n0_ := Aside0.mk (Kd.R_below (by (with_reducible repeat (first | apply Kd.R_alloc | apply Kd.R_drewN | apply Kd.R_drew)); exact HO_3.out) hb); have n1_ := Aside0.mk (below_step (by repeat (first | (with_reducible first | exact HB.out | apply below_alloc | apply pw_below_drewN | apply below_drew1) | exact HB.out)) hb); have n2_ := Aside0.mk (hbox); have n3_ := Aside0.mk ((by rw [hg]; exact (below_size (by repeat (first | (with_reducible first | exact HB.out | apply below_alloc | apply pw_below_drewN | apply below_drew1) | exact HB.out))) : w.heap.size ≤ gb282)); have n4_ := Aside0.mk ((by rw [hg]; exact (below_size (by repeat (first | (with_reducible first | exact HB.out | apply below_alloc | apply pw_below_drewN | apply below_drew1) | exact HB.out))) : w.heap.size ≤ gb282)); clear HO_3; clear HB; have HO_3 := n0_; have HB := n1_; have BK282 := n2_; have GW282 := n3_; have GE282 := n4_; clear n0_ n1_ n2_ n3_ n4_; clear hb hbox hg; have hcz35_0 : w34.cell? ⟨gb282, 0, none⟩ = some (.int .i64 0) := (blk_cell BK282.out 0).trans rfl; have hcz35_1 : w34.cell? ⟨gb282, 1, none⟩ = some (.string (⟨#[]⟩ : ByteArray)) := (blk_cell BK282.out 1).trans rfl; have hcz35_2 : w34.cell? ⟨gb282, 2, none⟩ = some (.slice none 0 0) := (blk_cell BK282.out 2).trans rfl; have hfz35_0 := blk_frozen BK282.out 0; have hfz35_1 := blk_frozen BK282.out 1; have hfz35_2 := blk_frozen BK282.out 2) | ((with_reducible refine gate_callee (f := 59) rfl ?_); refine goesL_ (some 20) rfl rfl Tryd.func59 (by kernel_rfl) rfl #[.slice A281_2 ((rd_T59 l0 x14_1).f2).length c281_2, .string (⟨#[32]⟩ : ByteArray)] rfl (by (try simp only [List.map_toArray, List.map_cons, List.map_nil]); first | done | rfl | (simp only [List.length_drop, List.length_take]; rfl)) ?_; (with_reducible refine (strings_Join.calls _ _ ((rd_T59 l0 x14_1).f2) (⟨#[32]⟩ : ByteArray) t283 _ ?side1 ?side2 A10.out).mono ?_); (case side1 => exact Kd.C_below HR281_2.out (by repeat (first | (with_reducible first | exact HB.out | apply below_alloc | apply pw_below_drewN | apply below_drew1 | refine below_set ?_ GE282.out) | exact HB.out))); (case side2 => exact HC281_2.out); rintro e w36 ⟨rfl, hb⟩; refine ⟨_, rfl, ?_⟩; have n0_ := Aside0.mk (Kd.R_below (by (with_reducible repeat (first | apply Kd.R_alloc | apply Kd.R_drewN | apply Kd.R_drew)); exact (Kd.R_mono (Kd.R_far (p := ⟨gb282, 2, none⟩) (Kd.R_far (p := ⟨gb282, 1, none⟩) (Kd.R_far (p := ⟨gb282, 0, none⟩) (Kd.R_types HO_3.out BK282.out (by decide)) (fun _ hk => hk.2) (.int .i64 ((rd_T59 l0 x14_1).f0))) (fun _ hk => hk.2) (.string ((rd_T59 l0 x14_1).f1))) (fun _ hk => hk.2) (.slice A281_2 ((rd_T59 l0 x14_1).f2).length c281_2)) (fun _ h_ => h_.1))) hb); have n1_ := Aside0.mk (blk_below (g := gb282) (o := .cells #[.int .i64 ((rd_T59 l0 x14_1).f0), .string ((rd_T59 l0 x14_1).f1), .slice A281_2 ((rd_T59 l0 x14_1).f2).length c281_2] 59 (0, 0)) (by (with_reducible repeat (first | refine blk_drewN ?_ _ | refine blk_drew ?_ | refine blk_alloc ?_ _)); refine blk_put (cs := #[.int .i64 ((rd_T59 l0 x14_1).f0), .string ((rd_T59 l0 x14_1).f1), .slice none 0 0]) ?_ 2 _ rfl; (with_reducible repeat (first | refine blk_drewN ?_ _ | refine blk_drew ?_ | refine blk_alloc ?_ _)); refine blk_put (cs := #[.int .i64 ((rd_T59 l0 x14_1).f0), .string (⟨#[]⟩ : ByteArray), .slice none 0 0]) ?_ 1 _ rfl; (with_reducible repeat (first | refine blk_drewN ?_ _ | refine blk_drew ?_ | refine blk_alloc ?_ _)); refine blk_put (cs := #[.int .i64 0, .string (⟨#[]⟩ : ByteArray), .slice none 0 0]) ?_ 0 _ rfl; (with_reducible repeat (first | refine blk_drewN ?_ _ | refine blk_drew ?_ | refine blk_alloc ?_ _)); exact BK282.out) hb); have n2_ := Aside0.mk (below_step (by repeat (first | (with_reducible first | exact HB.out | apply below_alloc | apply pw_below_drewN | apply below_drew1 | refine below_set ?_ GE282.out) | exact HB.out)) hb); clear HO_3; clear BK282; clear HB; have HO_3 := n0_; have BK282 := n1_; have HB := n2_; clear n0_ n1_ n2_; (try clear hb); (try clear hb2); (try clear hk); (try clear hi); have hcz37_0 : w36.cell? ⟨gb282, 0, none⟩ = some (.int .i64 ((rd_T59 l0 x14_1).f0)) := (blk_cell BK282.out 0).trans rfl; have hcz37_1 : w36.cell? ⟨gb282, 1, none⟩ = some (.string ((rd_T59 l0 x14_1).f1)) := (blk_cell BK282.out 1).trans rfl; have hcz37_2 : w36.cell? ⟨gb282, 2, none⟩ = some (.slice A281_2 ((rd_T59 l0 x14_1).f2).length c281_2) := (blk_cell BK282.out 2).trans rfl; have hfz37_0 := blk_frozen BK282.out 0; have hfz37_1 := blk_frozen BK282.out 1; have hfz37_2 := blk_frozen BK282.out 2) | ((with_reducible refine gate_builtin (b := .append) (xs := #[.tmp 48, .tmp 50]) rfl ?_); at_builtin; refine Kd.R_append Kd.string (w0 := w) w.heap.size rfl (.tmp 48) (.tmp 50) 51 9 (.string ⟨#[]⟩) 16 rfl Tryd.underlying51 info9 rfl (by decide) (by omega) u3 x3_1 (((rd_T59 l0 x14_1).f1) ++ (((⟨#[32, 105, 110, 32, 40]⟩ : ByteArray) ++ t283) ++ (⟨#[41]⟩ : ByteArray))) [.string (((rd_T59 l0 x14_1).f1) ++ (((⟨#[32, 105, 110, 32, 40]⟩ : ByteArray) ++ t283) ++ (⟨#[41]⟩ : ByteArray)))] (fun _ => True) (fun _ => False) rfl rfl ?aP (fun _ hk => hk.elim) ?aF ?aO ?aB ?aS ?aL ?_; (case aP => exact rfl); (case aB => exact (by repeat (first | (with_reducible first | exact HB.out | apply below_alloc | apply pw_below_drewN | apply below_drew1 | refine below_set ?_ GE282.out) | exact HB.out))); (case aF => exact (fun _ _ => trivial)); (case aO => exact (by (with_reducible repeat (first | apply Kd.R_alloc | apply Kd.R_drewN | apply Kd.R_drew)); exact HO_3.out)); (case aS => exact (below_size (by repeat (first | (with_reducible first | exact HB.out | apply below_alloc | apply pw_below_drewN | apply below_drew1 | refine below_set ?_ GE282.out) | exact HB.out)))); (case aL => have := LMc33.out; omega); intro v291 w38 ho hb hg hat; rw [← Ny290.out] at ho; have n0_ := Aside0.mk (blk_grown (g := gb282) (o := .cells #[.int .i64 ((rd_T59 l0 x14_1).f0), .string ((rd_T59 l0 x14_1).f1), .slice A281_2 ((rd_T59 l0 x14_1).f2).length c281_2] 59 (0, 0)) (by (with_reducible repeat (first | refine blk_drewN ?_ _ | refine blk_drew ?_ | refine blk_alloc ?_ _)); exact BK282.out) hg (Kd.R_ne HO_3.out BK282.out (by decide))); have n1_ := Aside0.mk (hb); have n2_ := Aside0.mk (ho); clear BK282; clear HB; clear HO_3; have BK282 := n0_; have HB := n1_; have HO292 := n2_; clear n0_ n1_ n2_; clear ho hb hg hat))
              go_roundg k1
              case measure => have := HK1.out; omega
              case rel => exact ⟨(y290), (wrap64 (x14_1 + 1)), (by first | rfl | (simp; done) | (simp [*]; done)), H', ⟨by have := HK1.out; omega⟩, ⟨by (with_reducible repeat (first | apply Kd.R_alloc | apply Kd.R_drewN | apply Kd.R_drew)); exact HO292.out⟩, ⟨qB HB⟩⟩
             ·rw [if_neg c33] at H
              exact absurd H (by simp)
            ·rw [if_neg c32] at H
             exact absurd H (by simp)
           ·rw [if_neg c31] at H
            exact absurd H (by simp)
          ·rw [if_neg c30] at H
           exact absurd H (by simp)
         ·rw [if_neg c29] at H
          have c29b0 : (((rd_T59 l0 x14_1).f0) == 3) = false := beq_eq_false_iff_ne.mpr c29
          have c29b1 : (((rd_T59 l0 x14_1).f0) != 3) = true := bne_iff_ne.mpr c29
          by_cases c39 : ((rd_T59 l0 x14_1).f0) = 5
          ·rw [if_pos c39] at H
           have c39b0 : (((rd_T59 l0 x14_1).f0) == 5) = true := beq_iff_eq.mpr c39
           have c39b1 : (((rd_T59 l0 x14_1).f0) != 5) = false := bne_eq_false_iff_eq.mpr c39
           clear c39
           by_cases c40 : 1 + ((rd_T59 l0 x14_1).f1).size ≤ 9223372036854775807
           ·rw [if_pos c40] at H
            have c40b0 := eq_true c40
            have c40b1 : decide (1 + ((rd_T59 l0 x14_1).f1).size ≤ 9223372036854775807) = true := decide_eq_true c40
            try have c40b2 : (9223372036854775807 < 1 + ((rd_T59 l0 x14_1).f1).size) = False := eq_false (Nat.not_lt.2 c40)
            by_cases c41 : x3_1.length < 8796093022208
            ·rw [if_pos c41] at H
             have LMc41 := Aside0.mk c41
             clear c41
             obtain ⟨y293, hy293⟩ : ∃ y_ : List ByteArray, y_ = (x3_1 ++ [(⟨#[33]⟩ : ByteArray) ++ ((rd_T59 l0 x14_1).f1)]) := ⟨_, rfl⟩
             replace H : (impl_SelectorText.l0 k1 y293 l0 (l0.length : Int) (wrap64 (x14_1 + 1))) = some r := by first | (rw [hy293]; with_reducible exact H) | (have H2_ := (Option.bind_some _ _).symm.trans H; rw [hy293]; with_reducible exact H2_) | (have H2_ := (Option.bind_some _ _).symm.trans H; with_reducible exact H2_) | with_reducible exact H | (rw [hy293]; exact H) | exact H
             have Ny293 := Aside0.mk hy293
             clear hy293
             have H' := Aside0.mk H
             clear H
             have p281 : 0 ≤ (x14_1 : Int) := of_decide_eq_true (by first | (with_reducible assumption) | assumption)
             have q281 : x14_1 < (l0.length : Int) := of_decide_eq_true (by first | (with_reducible assumption) | assumption)
             obtain ⟨ad281, A281_2, c281_2, e281, hx281_0, hx281_1, hx281_2, hl281_2, hi281_2⟩ := at_T59 HR0.out x14_1 p281 q281
             cases e281
             replace hx281_0 := (HB.out.cell (World.block_lt_of_cell? w _ hx281_0)).trans hx281_0
             replace hx281_1 := (HB.out.cell (World.block_lt_of_cell? w _ hx281_1)).trans hx281_1
             replace hx281_2 := (HB.out.cell (World.block_lt_of_cell? w _ hx281_2)).trans hx281_2
             have HR281_2 := Aside0.mk hi281_2
             have HC281_2 := Aside0.mk hl281_2
             clear hi281_2 hl281_2
             replace p281 := eq_true p281
             replace q281 := eq_true q281
             go_wp2_with (first | ((with_reducible refine gate_dst (N := 5) rfl ?_); refine box_event ?hg (N := 5) ?hd (cs := #[.int .i64 0, .string (⟨#[]⟩ : ByteArray), .slice none 0 0]) (t := 59) ?hr ?_; (case hd => rfl); (case hg => rfl); (case hr => first | (go_simp; done) | (go_simp; rfl)); intro gb282 hg w42 hbox hb; have n0_ := Aside0.mk (Kd.R_below (by (with_reducible repeat (first | apply Kd.R_alloc | apply Kd.R_drewN | apply Kd.R_drew)); exact HO_3.out) hb); have n1_ := Aside0.mk (below_step (by repeat (first | (with_reducible first | exact HB.out | apply below_alloc | apply pw_below_drewN | apply below_drew1) | exact HB.out)) hb); have n2_ := Aside0.mk (hbox); have n3_ := Aside0.mk ((by rw [hg]; exact (below_size (by repeat (first | (with_reducible first | exact HB.out | apply below_alloc | apply pw_below_drewN | apply below_drew1) | exact HB.out))) : w.heap.size ≤ gb282)); have n4_ := Aside0.mk ((by rw [hg]; exact (below_size (by repeat (first | (with_reducible first | exact HB.out | apply below_alloc | apply pw_below_drewN | apply below_drew1) | exact HB.out))) : w.heap.size ≤ gb282)); clear HO_3; clear HB; have HO_3 := n0_; have HB := n1_; have BK282 := n2_; have GW282 := n3_; have GE282 := n4_; clear n0_ n1_ n2_ n3_ n4_; clear hb hbox hg; have hcz43_0 : w42.cell? ⟨gb282, 0, none⟩ = some (.int .i64 0) := (blk_cell BK282.out 0).trans rfl; have hcz43_1 : w42.cell? ⟨gb282, 1, none⟩ = some (.string (⟨#[]⟩ : ByteArray)) := (blk_cell BK282.out 1).trans rfl; have hcz43_2 : w42.cell? ⟨gb282, 2, none⟩ = some (.slice none 0 0) := (blk_cell BK282.out 2).trans rfl; have hfz43_0 := blk_frozen BK282.out 0; have hfz43_1 := blk_frozen BK282.out 1; have hfz43_2 := blk_frozen BK282.out 2) | ((with_reducible refine gate_callee (f := 59) rfl ?_); refine goesL_ (some 20) rfl rfl Tryd.func59 (by kernel_rfl) rfl #[.slice A281_2 ((rd_T59 l0 x14_1).f2).length c281_2, .string (⟨#[32]⟩ : ByteArray)] rfl (by (try simp only [List.map_toArray, List.map_cons, List.map_nil]); first | done | rfl | (simp only [List.length_drop, List.length_take]; rfl)) ?_; (with_reducible refine (strings_Join.calls _ _ ((rd_T59 l0 x14_1).f2) (⟨#[32]⟩ : ByteArray) t283 _ ?side1 ?side2 A10.out).mono ?_); (case side1 => exact Kd.C_below HR281_2.out (by repeat (first | (with_reducible first | exact HB.out | apply below_alloc | apply pw_below_drewN | apply below_drew1 | refine below_set ?_ GE282.out) | exact HB.out))); (case side2 => exact HC281_2.out); rintro e w44 ⟨rfl, hb⟩; refine ⟨_, rfl, ?_⟩; have n0_ := Aside0.mk (Kd.R_below (by (with_reducible repeat (first | apply Kd.R_alloc | apply Kd.R_drewN | apply Kd.R_drew)); exact (Kd.R_mono (Kd.R_far (p := ⟨gb282, 2, none⟩) (Kd.R_far (p := ⟨gb282, 1, none⟩) (Kd.R_far (p := ⟨gb282, 0, none⟩) (Kd.R_types HO_3.out BK282.out (by decide)) (fun _ hk => hk.2) (.int .i64 ((rd_T59 l0 x14_1).f0))) (fun _ hk => hk.2) (.string ((rd_T59 l0 x14_1).f1))) (fun _ hk => hk.2) (.slice A281_2 ((rd_T59 l0 x14_1).f2).length c281_2)) (fun _ h_ => h_.1))) hb); have n1_ := Aside0.mk (blk_below (g := gb282) (o := .cells #[.int .i64 ((rd_T59 l0 x14_1).f0), .string ((rd_T59 l0 x14_1).f1), .slice A281_2 ((rd_T59 l0 x14_1).f2).length c281_2] 59 (0, 0)) (by (with_reducible repeat (first | refine blk_drewN ?_ _ | refine blk_drew ?_ | refine blk_alloc ?_ _)); refine blk_put (cs := #[.int .i64 ((rd_T59 l0 x14_1).f0), .string ((rd_T59 l0 x14_1).f1), .slice none 0 0]) ?_ 2 _ rfl; (with_reducible repeat (first | refine blk_drewN ?_ _ | refine blk_drew ?_ | refine blk_alloc ?_ _)); refine blk_put (cs := #[.int .i64 ((rd_T59 l0 x14_1).f0), .string (⟨#[]⟩ : ByteArray), .slice none 0 0]) ?_ 1 _ rfl; (with_reducible repeat (first | refine blk_drewN ?_ _ | refine blk_drew ?_ | refine blk_alloc ?_ _)); refine blk_put (cs := #[.int .i64 0, .string (⟨#[]⟩ : ByteArray), .slice none 0 0]) ?_ 0 _ rfl; (with_reducible repeat (first | refine blk_drewN ?_ _ | refine blk_drew ?_ | refine blk_alloc ?_ _)); exact BK282.out) hb); have n2_ := Aside0.mk (below_step (by repeat (first | (with_reducible first | exact HB.out | apply below_alloc | apply pw_below_drewN | apply below_drew1 | refine below_set ?_ GE282.out) | exact HB.out)) hb); clear HO_3; clear BK282; clear HB; have HO_3 := n0_; have BK282 := n1_; have HB := n2_; clear n0_ n1_ n2_; (try clear hb); (try clear hb2); (try clear hk); (try clear hi); have hcz45_0 : w44.cell? ⟨gb282, 0, none⟩ = some (.int .i64 ((rd_T59 l0 x14_1).f0)) := (blk_cell BK282.out 0).trans rfl; have hcz45_1 : w44.cell? ⟨gb282, 1, none⟩ = some (.string ((rd_T59 l0 x14_1).f1)) := (blk_cell BK282.out 1).trans rfl; have hcz45_2 : w44.cell? ⟨gb282, 2, none⟩ = some (.slice A281_2 ((rd_T59 l0 x14_1).f2).length c281_2) := (blk_cell BK282.out 2).trans rfl; have hfz45_0 := blk_frozen BK282.out 0; have hfz45_1 := blk_frozen BK282.out 1; have hfz45_2 := blk_frozen BK282.out 2) | ((with_reducible refine gate_builtin (b := .append) (xs := #[.tmp 48, .tmp 50]) rfl ?_); at_builtin; refine Kd.R_append Kd.string (w0 := w) w.heap.size rfl (.tmp 48) (.tmp 50) 51 9 (.string ⟨#[]⟩) 16 rfl Tryd.underlying51 info9 rfl (by decide) (by omega) u3 x3_1 ((⟨#[33]⟩ : ByteArray) ++ ((rd_T59 l0 x14_1).f1)) [.string ((⟨#[33]⟩ : ByteArray) ++ ((rd_T59 l0 x14_1).f1))] (fun _ => True) (fun _ => False) rfl rfl ?aP (fun _ hk => hk.elim) ?aF ?aO ?aB ?aS ?aL ?_; (case aP => exact rfl); (case aB => exact (by repeat (first | (with_reducible first | exact HB.out | apply below_alloc | apply pw_below_drewN | apply below_drew1 | refine below_set ?_ GE282.out) | exact HB.out))); (case aF => exact (fun _ _ => trivial)); (case aO => exact (by (with_reducible repeat (first | apply Kd.R_alloc | apply Kd.R_drewN | apply Kd.R_drew)); exact HO_3.out)); (case aS => exact (below_size (by repeat (first | (with_reducible first | exact HB.out | apply below_alloc | apply pw_below_drewN | apply below_drew1 | refine below_set ?_ GE282.out) | exact HB.out)))); (case aL => have := LMc41.out; omega); intro v294 w46 ho hb hg hat; rw [← Ny293.out] at ho; have n0_ := Aside0.mk (blk_grown (g := gb282) (o := .cells #[.int .i64 ((rd_T59 l0 x14_1).f0), .string ((rd_T59 l0 x14_1).f1), .slice A281_2 ((rd_T59 l0 x14_1).f2).length c281_2] 59 (0, 0)) (by (with_reducible repeat (first | refine blk_drewN ?_ _ | refine blk_drew ?_ | refine blk_alloc ?_ _)); exact BK282.out) hg (Kd.R_ne HO_3.out BK282.out (by decide))); have n1_ := Aside0.mk (hb); have n2_ := Aside0.mk (ho); clear BK282; clear HB; clear HO_3; have BK282 := n0_; have HB := n1_; have HO295 := n2_; clear n0_ n1_ n2_; clear ho hb hg hat))
             go_roundg k1
             case measure => have := HK1.out; omega
             case rel => exact ⟨(y293), (wrap64 (x14_1 + 1)), (by first | rfl | (simp; done) | (simp [*]; done)), H', ⟨by have := HK1.out; omega⟩, ⟨by (with_reducible repeat (first | apply Kd.R_alloc | apply Kd.R_drewN | apply Kd.R_drew)); exact HO295.out⟩, ⟨qB HB⟩⟩
            ·rw [if_neg c41] at H
             exact absurd H (by simp)
           ·rw [if_neg c40] at H
            exact absurd H (by simp)
          ·rw [if_neg c39] at H
           have c39b0 : (((rd_T59 l0 x14_1).f0) == 5) = false := beq_eq_false_iff_ne.mpr c39
           have c39b1 : (((rd_T59 l0 x14_1).f0) != 5) = true := bne_iff_ne.mpr c39
           by_cases c47 : x3_1.length < 8796093022208
           ·rw [if_pos c47] at H
            have LMc47 := Aside0.mk c47
            clear c47
            obtain ⟨y296, hy296⟩ : ∃ y_ : List ByteArray, y_ = (x3_1 ++ [(rd_T59 l0 x14_1).f1]) := ⟨_, rfl⟩
            replace H : (impl_SelectorText.l0 k1 y296 l0 (l0.length : Int) (wrap64 (x14_1 + 1))) = some r := by first | (rw [hy296]; with_reducible exact H) | (have H2_ := (Option.bind_some _ _).symm.trans H; rw [hy296]; with_reducible exact H2_) | (have H2_ := (Option.bind_some _ _).symm.trans H; with_reducible exact H2_) | with_reducible exact H | (rw [hy296]; exact H) | exact H
            have Ny296 := Aside0.mk hy296
            clear hy296
            have H' := Aside0.mk H
            clear H
            have p281 : 0 ≤ (x14_1 : Int) := of_decide_eq_true (by first | (with_reducible assumption) | assumption)
            have q281 : x14_1 < (l0.length : Int) := of_decide_eq_true (by first | (with_reducible assumption) | assumption)
            obtain ⟨ad281, A281_2, c281_2, e281, hx281_0, hx281_1, hx281_2, hl281_2, hi281_2⟩ := at_T59 HR0.out x14_1 p281 q281
            cases e281
            replace hx281_0 := (HB.out.cell (World.block_lt_of_cell? w _ hx281_0)).trans hx281_0
            replace hx281_1 := (HB.out.cell (World.block_lt_of_cell? w _ hx281_1)).trans hx281_1
            replace hx281_2 := (HB.out.cell (World.block_lt_of_cell? w _ hx281_2)).trans hx281_2
            have HR281_2 := Aside0.mk hi281_2
            have HC281_2 := Aside0.mk hl281_2
            clear hi281_2 hl281_2
            replace p281 := eq_true p281
            replace q281 := eq_true q281
            go_wp2_with (first | ((with_reducible refine gate_dst (N := 5) rfl ?_); refine box_event ?hg (N := 5) ?hd (cs := #[.int .i64 0, .string (⟨#[]⟩ : ByteArray), .slice none 0 0]) (t := 59) ?hr ?_; (case hd => rfl); (case hg => rfl); (case hr => first | (go_simp; done) | (go_simp; rfl)); intro gb282 hg w48 hbox hb; have n0_ := Aside0.mk (Kd.R_below (by (with_reducible repeat (first | apply Kd.R_alloc | apply Kd.R_drewN | apply Kd.R_drew)); exact HO_3.out) hb); have n1_ := Aside0.mk (below_step (by repeat (first | (with_reducible first | exact HB.out | apply below_alloc | apply pw_below_drewN | apply below_drew1) | exact HB.out)) hb); have n2_ := Aside0.mk (hbox); have n3_ := Aside0.mk ((by rw [hg]; exact (below_size (by repeat (first | (with_reducible first | exact HB.out | apply below_alloc | apply pw_below_drewN | apply below_drew1) | exact HB.out))) : w.heap.size ≤ gb282)); have n4_ := Aside0.mk ((by rw [hg]; exact (below_size (by repeat (first | (with_reducible first | exact HB.out | apply below_alloc | apply pw_below_drewN | apply below_drew1) | exact HB.out))) : w.heap.size ≤ gb282)); clear HO_3; clear HB; have HO_3 := n0_; have HB := n1_; have BK282 := n2_; have GW282 := n3_; have GE282 := n4_; clear n0_ n1_ n2_ n3_ n4_; clear hb hbox hg; have hcz49_0 : w48.cell? ⟨gb282, 0, none⟩ = some (.int .i64 0) := (blk_cell BK282.out 0).trans rfl; have hcz49_1 : w48.cell? ⟨gb282, 1, none⟩ = some (.string (⟨#[]⟩ : ByteArray)) := (blk_cell BK282.out 1).trans rfl; have hcz49_2 : w48.cell? ⟨gb282, 2, none⟩ = some (.slice none 0 0) := (blk_cell BK282.out 2).trans rfl; have hfz49_0 := blk_frozen BK282.out 0; have hfz49_1 := blk_frozen BK282.out 1; have hfz49_2 := blk_frozen BK282.out 2) | ((with_reducible refine gate_callee (f := 59) rfl ?_); refine goesL_ (some 20) rfl rfl Tryd.func59 (by kernel_rfl) rfl #[.slice A281_2 ((rd_T59 l0 x14_1).f2).length c281_2, .string (⟨#[32]⟩ : ByteArray)] rfl (by (try simp only [List.map_toArray, List.map_cons, List.map_nil]); first | done | rfl | (simp only [List.length_drop, List.length_take]; rfl)) ?_; (with_reducible refine (strings_Join.calls _ _ ((rd_T59 l0 x14_1).f2) (⟨#[32]⟩ : ByteArray) t283 _ ?side1 ?side2 A10.out).mono ?_); (case side1 => exact Kd.C_below HR281_2.out (by repeat (first | (with_reducible first | exact HB.out | apply below_alloc | apply pw_below_drewN | apply below_drew1 | refine below_set ?_ GE282.out) | exact HB.out))); (case side2 => exact HC281_2.out); rintro e w50 ⟨rfl, hb⟩; refine ⟨_, rfl, ?_⟩; have n0_ := Aside0.mk (Kd.R_below (by (with_reducible repeat (first | apply Kd.R_alloc | apply Kd.R_drewN | apply Kd.R_drew)); exact (Kd.R_mono (Kd.R_far (p := ⟨gb282, 2, none⟩) (Kd.R_far (p := ⟨gb282, 1, none⟩) (Kd.R_far (p := ⟨gb282, 0, none⟩) (Kd.R_types HO_3.out BK282.out (by decide)) (fun _ hk => hk.2) (.int .i64 ((rd_T59 l0 x14_1).f0))) (fun _ hk => hk.2) (.string ((rd_T59 l0 x14_1).f1))) (fun _ hk => hk.2) (.slice A281_2 ((rd_T59 l0 x14_1).f2).length c281_2)) (fun _ h_ => h_.1))) hb); have n1_ := Aside0.mk (blk_below (g := gb282) (o := .cells #[.int .i64 ((rd_T59 l0 x14_1).f0), .string ((rd_T59 l0 x14_1).f1), .slice A281_2 ((rd_T59 l0 x14_1).f2).length c281_2] 59 (0, 0)) (by (with_reducible repeat (first | refine blk_drewN ?_ _ | refine blk_drew ?_ | refine blk_alloc ?_ _)); refine blk_put (cs := #[.int .i64 ((rd_T59 l0 x14_1).f0), .string ((rd_T59 l0 x14_1).f1), .slice none 0 0]) ?_ 2 _ rfl; (with_reducible repeat (first | refine blk_drewN ?_ _ | refine blk_drew ?_ | refine blk_alloc ?_ _)); refine blk_put (cs := #[.int .i64 ((rd_T59 l0 x14_1).f0), .string (⟨#[]⟩ : ByteArray), .slice none 0 0]) ?_ 1 _ rfl; (with_reducible repeat (first | refine blk_drewN ?_ _ | refine blk_drew ?_ | refine blk_alloc ?_ _)); refine blk_put (cs := #[.int .i64 0, .string (⟨#[]⟩ : ByteArray), .slice none 0 0]) ?_ 0 _ rfl; (with_reducible repeat (first | refine blk_drewN ?_ _ | refine blk_drew ?_ | refine blk_alloc ?_ _)); exact BK282.out) hb); have n2_ := Aside0.mk (below_step (by repeat (first | (with_reducible first | exact HB.out | apply below_alloc | apply pw_below_drewN | apply below_drew1 | refine below_set ?_ GE282.out) | exact HB.out)) hb); clear HO_3; clear BK282; clear HB; have HO_3 := n0_; have BK282 := n1_; have HB := n2_; clear n0_ n1_ n2_; (try clear hb); (try clear hb2); (try clear hk); (try clear hi); have hcz51_0 : w50.cell? ⟨gb282, 0, none⟩ = some (.int .i64 ((rd_T59 l0 x14_1).f0)) := (blk_cell BK282.out 0).trans rfl; have hcz51_1 : w50.cell? ⟨gb282, 1, none⟩ = some (.string ((rd_T59 l0 x14_1).f1)) := (blk_cell BK282.out 1).trans rfl; have hcz51_2 : w50.cell? ⟨gb282, 2, none⟩ = some (.slice A281_2 ((rd_T59 l0 x14_1).f2).length c281_2) := (blk_cell BK282.out 2).trans rfl; have hfz51_0 := blk_frozen BK282.out 0; have hfz51_1 := blk_frozen BK282.out 1; have hfz51_2 := blk_frozen BK282.out 2) | ((with_reducible refine gate_builtin (b := .append) (xs := #[.tmp 48, .tmp 50]) rfl ?_); at_builtin; refine Kd.R_append Kd.string (w0 := w) w.heap.size rfl (.tmp 48) (.tmp 50) 51 9 (.string ⟨#[]⟩) 16 rfl Tryd.underlying51 info9 rfl (by decide) (by omega) u3 x3_1 ((rd_T59 l0 x14_1).f1) [.string ((rd_T59 l0 x14_1).f1)] (fun _ => True) (fun _ => False) rfl rfl ?aP (fun _ hk => hk.elim) ?aF ?aO ?aB ?aS ?aL ?_; (case aP => exact rfl); (case aB => exact (by repeat (first | (with_reducible first | exact HB.out | apply below_alloc | apply pw_below_drewN | apply below_drew1 | refine below_set ?_ GE282.out) | exact HB.out))); (case aF => exact (fun _ _ => trivial)); (case aO => exact (by (with_reducible repeat (first | apply Kd.R_alloc | apply Kd.R_drewN | apply Kd.R_drew)); exact HO_3.out)); (case aS => exact (below_size (by repeat (first | (with_reducible first | exact HB.out | apply below_alloc | apply pw_below_drewN | apply below_drew1 | refine below_set ?_ GE282.out) | exact HB.out)))); (case aL => have := LMc47.out; omega); intro v297 w52 ho hb hg hat; rw [← Ny296.out] at ho; have n0_ := Aside0.mk (blk_grown (g := gb282) (o := .cells #[.int .i64 ((rd_T59 l0 x14_1).f0), .string ((rd_T59 l0 x14_1).f1), .slice A281_2 ((rd_T59 l0 x14_1).f2).length c281_2] 59 (0, 0)) (by (with_reducible repeat (first | refine blk_drewN ?_ _ | refine blk_drew ?_ | refine blk_alloc ?_ _)); exact BK282.out) hg (Kd.R_ne HO_3.out BK282.out (by decide))); have n1_ := Aside0.mk (hb); have n2_ := Aside0.mk (ho); clear BK282; clear HB; clear HO_3; have BK282 := n0_; have HB := n1_; have HO298 := n2_; clear n0_ n1_ n2_; clear ho hb hg hat))
            go_roundg k1
            case measure => have := HK1.out; omega
            case rel => exact ⟨(y296), (wrap64 (x14_1 + 1)), (by first | rfl | (simp; done) | (simp [*]; done)), H', ⟨by have := HK1.out; omega⟩, ⟨by (with_reducible repeat (first | apply Kd.R_alloc | apply Kd.R_drewN | apply Kd.R_drew)); exact HO298.out⟩, ⟨qB HB⟩⟩
           ·rw [if_neg c47] at H
            exact absurd H (by simp)
      ·rw [if_neg c9] at H
       exact absurd H (by simp)
     ·rw [if_neg c8] at H
      exact absurd H (by simp)
    ·rw [if_neg c7] at H
     have c7b0 : decide (x14_1 < (l0.length : Int)) = false := decide_eq_false c7
     clear c7
     replace H := Option.bind_eq_some_iff.mp H
     obtain ⟨t280, A530, H⟩ := H
     try dsimp only at H
     have A53 := Aside0.mk A530
     clear A530
     obtain rfl := Option.some.inj H
     obtain ⟨Ao54, co54, eo54⟩ := Kd.R_slice HO_3.out
     subst eo54
     go_wp2_with (first | ((with_reducible refine gate_callee (f := 59) rfl ?_); refine goesL_ (some 54) rfl rfl Tryd.func59 (by kernel_rfl) rfl #[.slice Ao54 x3_1.length co54, .string (⟨#[44]⟩ : ByteArray)] rfl (by (try simp only [List.map_toArray, List.map_cons, List.map_nil]); first | done | rfl | (simp only [List.length_drop, List.length_take]; rfl)) ?_; (with_reducible refine (strings_Join.calls _ _ x3_1 (⟨#[44]⟩ : ByteArray) t280 _ ?side1 ?side2 A53.out).mono ?_); (case side1 => repeat (first | exact (Kd.R_reads' HO_3.out).2.2 | (with_reducible refine Kd.C_alloc ?_ _) | (with_reducible refine Kd.C_drewN ?_ _) | (with_reducible refine Kd.C_drew ?_))); (case side2 => exact (Kd.R_reads' HO_3.out).2.1); rintro e w55 ⟨rfl, hb⟩; refine ⟨_, rfl, ?_⟩; have n0_ := Aside0.mk (Kd.R_below (by (with_reducible repeat (first | apply Kd.R_alloc | apply Kd.R_drewN | apply Kd.R_drew)); exact HO_3.out) hb); have n1_ := Aside0.mk (below_step (qB HB) hb); clear HO_3; clear HB; have HO_3 := n0_; have HB := n1_; clear n0_ n1_; (try clear hb); (try clear hb2); (try clear hk); (try clear hi)))
     go_ret
     exact ⟨by first | rfl | (simp [errW_none, errW_some] <;> rfl) | (simp [*, errW_none, errW_some] <;> rfl), by repeat (first | (with_reducible first | exact HB.out | apply below_alloc | apply pw_below_drewN | apply below_drew1) | exact HB.out)⟩
 ·replace c3 := Bool.eq_false_iff.mpr c3
  subst c3
  have H1 : (some (⟨#[]⟩ : ByteArray)) = some r := by rw [if_neg (show ¬ (false = true) by decide)] at H; exact H
  clear H
  have H := H1
  clear H1
  obtain rfl := Option.some.inj H
  go_enter Tryd.func28, Tryd.ntmps28
  go_wp2_with (first | ((with_reducible refine gate_callee (f := 30) rfl ?_); refine goesL_ (some 9) rfl rfl Tryd.func30 (by kernel_rfl) rfl #[.slice A0 l0.length c0] rfl (by (try simp only [List.map_toArray, List.map_cons, List.map_nil]); first | done | rfl | (simp only [List.length_drop, List.length_take]; rfl)) ?_; (with_reducible refine (impl_SelectorOk.calls k _ _ l0 false _ (qC0 HR0) HC0.out A2.out).mono ?_); rintro e w56 ⟨rfl, hb⟩; refine ⟨_, rfl, ?_⟩; have n0_ := Aside0.mk (below_step (qB HB) hb); clear HB; have HB := n0_; clear n0_; (try clear hb); (try clear hb2); (try clear hk); (try clear hi)))
  go_ret
  exact ⟨by first | rfl | (simp [errW_none, errW_some] <;> rfl) | (simp [*, errW_none, errW_some] <;> rfl), by repeat (first | (with_reducible first | exact HB.out | apply below_alloc | apply pw_below_drewN | apply below_drew1) | exact HB.out)⟩

end Go.Proofs.YtpjpnppoejnafaaDoor.G

/- G79 -/
-- Laid by wip/g/gprint.py out of the translation, by the kit's print program. Lean checks it.
namespace Go.Proofs.YtpjpnppoejnafaaDoor.G
open Go.RowKit Go.Proofs.YtpjpnppoejnafaaDoorW.PrintWords Go.Proofs.YtpjpnppoejnafaaDoorW.PrintLast Go.Proofs.YtpjpnppoejnafaaDoorW.PrintMore
attribute [local go_sem] max2_int min2_int max_two min_two max_three min_three max_four min_four   -- for this text's walks alone
set_option linter.unusedVariables false
set_option linter.unusedSimpArgs false

/-! ### spec_l2Text: function 79 -/
end Go.Proofs.YtpjpnppoejnafaaDoor.G

/- G41 -/
-- Laid by wip/g/gprint.py out of the translation, by the kit's print program. Lean checks it.
namespace Go.Proofs.YtpjpnppoejnafaaDoor.G
open Go.RowKit Go.Proofs.YtpjpnppoejnafaaDoorW.PrintWords Go.Proofs.YtpjpnppoejnafaaDoorW.PrintLast Go.Proofs.YtpjpnppoejnafaaDoorW.PrintMore
attribute [local go_sem] max2_int min2_int max_two min_two max_three min_three max_four min_four   -- for this text's walks alone
set_option linter.unusedVariables false
set_option linter.unusedSimpArgs false

/-! ### spec_SelectorText: function 41 -/
end Go.Proofs.YtpjpnppoejnafaaDoor.G

/- PSelTextB -/
/-
  The text of a selector; the law of SelectorText.
-/
namespace Go.Proofs.YtpjpnppoejnafaaDoor.G
open Go.RowKit Go.Proofs.YtpjpnppoejnafaaDoorW.PrintWords Go.Proofs.YtpjpnppoejnafaaDoorW.PrintLast Go.Proofs.YtpjpnppoejnafaaDoorW.PrintMore
set_option linter.unusedVariables false
set_option linter.unusedSimpArgs false
theorem nameB_size {s : ByteArray} (h : nameB s = true) : s.size ≤ 20 := by
  simp only [nameB, Bool.and_eq_true] at h
  have := inB_true h.2.1; omega
theorem sz1 (a : UInt8) : (⟨#[a]⟩ : ByteArray).size = 1 := rfl
theorem sz2 (a b : UInt8) : (⟨#[a, b]⟩ : ByteArray).size = 2 := rfl
theorem sz5 (a b c d e : UInt8) : (⟨#[a, b, c, d, e]⟩ : ByteArray).size = 5 := rfl
def termTxt (x : ITerm) : ByteArray :=
  if x.f0 = 1 then x.f1 ++ (⟨#[61]⟩ ++ jn x.f2 ⟨#[32]⟩) else if x.f0 = 2 then x.f1 ++ (⟨#[33, 61]⟩ ++ jn x.f2 ⟨#[32]⟩) else if x.f0 = 3 then x.f1 ++ ((⟨#[32, 105, 110, 32, 40]⟩ ++ jn x.f2 ⟨#[32]⟩) ++ ⟨#[41]⟩)
  else if x.f0 = 5 then ⟨#[33]⟩ ++ x.f1 else x.f1
theorem namsB_at {xs : List ByteArray} (h : namsB xs = true) {x : ByteArray} (hx : x ∈ xs) : x.size ≤ 20 := by
  obtain ⟨i, hi, rfl⟩ := List.getElem_of_mem hx
  have := namOk_name (allN_true.1 h i hi)
  rw [rdS hi] at this
  exact nameB_size this
theorem termB_parts {x : ITerm} (h : termB x = true) : namsB x.f2 = true ∧ x.f1.size ≤ 20 ∧ kindB x.f0 x.f2.length = true ∧ x.f2.length ≤ 6 ∧ (jn x.f2 ⟨#[32]⟩).size ≤ 126 := by
  simp only [termB, Bool.and_eq_true] at h
  have h6 := kindB_le h.2.2
  have := jn_size ⟨#[32]⟩ 1 (by decide) x.f2 20 (fun y hy => namsB_at h.1 hy)
  exact ⟨h.1, nameB_size h.2.1, h.2.2, by omega, by omega⟩
theorem kindB_cases {k n : Int} (h : kindB k n = true) : ((k = 1 ∨ k = 2) ∧ n = 1) ∨ k = 3 ∨ k = 4 ∨ k = 5 := by
  by_cases c1 : k = 1 ∨ k = 2
  · rw [kindB_12 c1] at h; exact .inl ⟨c1, by simpa using h⟩
  · by_cases c3 : k = 3
    · exact .inr (.inl c3)
    · by_cases c4 : k = 4 ∨ k = 5
      · exact .inr (.inr c4)
      · rw [kindB_no c1 c3 c4] at h; cases h
theorem termTxt_size {x : ITerm} (h : termB x = true) : (termTxt x).size ≤ 152 := by
  obtain ⟨_, h1, _, _, h2⟩ := termB_parts h
  unfold termTxt
  split
  · simp only [ByteArray.size_append, sz1]; omega
  · split
    · simp only [ByteArray.size_append, sz2]; omega
    · split
      · simp only [ByteArray.size_append, sz5, sz1]; omega
      · split
        · simp only [ByteArray.size_append, sz1]; omega
        · omega
def selTxt (xs : List ITerm) : ByteArray := if selB xs = true then jn (xs.map termTxt) ⟨#[44]⟩ else ⟨#[]⟩
theorem selB_parts {xs : List ITerm} (h : selB xs = true) : xs.length ≤ 8 ∧ ∀ i (hi : i < xs.length), termB xs[i] = true := by
  simp only [selB, Bool.and_eq_true, decide_eq_true_eq] at h
  refine ⟨by omega, fun i hi => ?_⟩
  have := allN_true.1 h.1 i hi
  rw [rdIT hi] at this; exact this
theorem sel_size {xs : List ITerm} (h : selB xs = true) (n : Nat) : (jn ((xs.map termTxt).take n) ⟨#[44]⟩).size ≤ 1224 ∧ (xs.map termTxt).length ≤ 8 := by
  obtain ⟨h8, ht⟩ := selB_parts h
  have := jn_size ⟨#[44]⟩ 1 (by decide) ((xs.map termTxt).take n) 152 (fun y hy => by
    obtain ⟨x, hx, rfl⟩ := List.mem_map.1 (List.mem_of_mem_take hy)
    obtain ⟨i, hi, rfl⟩ := List.getElem_of_mem hx
    exact termTxt_size (ht i hi))
  have hl : ((xs.map termTxt).take n).length ≤ 8 := by rw [List.length_take, List.length_map]; omega
  exact ⟨by omega, by simpa using h8⟩
theorem implSelectorText_l0 (xs : List ITerm) (h : selB xs = true) : ∀ (d i : Nat), i + d = xs.length → Ev (fun k => impl_SelectorText.l0 k ((xs.map termTxt).take i) xs xs.length i) (jn (xs.map termTxt) ⟨#[44]⟩)
  | 0, i, hd => by
    have hs := sel_size h (xs.map termTxt).length
    rw [List.take_length] at hs
    refine Ev.step (fun k => by rw [impl_SelectorText.l0]) (ev_if_neg (by omega) ?_)
    rw [List.take_of_length_le (by simp; omega)]
    exact Ev.bind (ev_now (join_f _ _ (by omega) (by omega))) (Ev.now _)
  | d + 1, i, hd => by
    obtain ⟨h8, ht⟩ := selB_parts h
    have hi : i < xs.length := by omega
    obtain ⟨hn, h1, hk, h6, h2⟩ := termB_parts (ht i hi)
    have ih := implSelectorText_l0 xs h d (i + 1) (by omega)
    rw [List.take_succ_eq_append_getElem (by simpa using hi), List.getElem_map] at ih
    have hl : ((xs.map termTxt).take i).length < 8796093022208 := by rw [List.length_take, List.length_map]; omega
    refine Ev.step (fun k => by rw [impl_SelectorText.l0]) (ev_if_pos (by omega) (ev_if_pos (by omega) (ev_if_pos (by omega) ?_)))
    simp only [wsucc hi (by omega : xs.length ≤ 9223372036854775807), rdIT hi]
    refine Ev.bind (ev_now (join_f _ _ (by omega) (by omega))) ?_
    unfold termTxt at ih
    rcases kindB_cases hk with ⟨hk | hk, _⟩ | hk | hk | hk
    · rw [if_pos hk] at ih
      exact ev_if_pos hk (ev_if_pos (by omega) (ev_if_pos (by simp only [ByteArray.size_append, sz1]; omega) (ev_if_pos hl ih)))
    · rw [if_neg (by omega), if_pos hk] at ih
      exact ev_if_neg (by omega) (ev_if_pos hk (ev_if_pos (by omega) (ev_if_pos (by simp only [ByteArray.size_append, sz2]; omega) (ev_if_pos hl ih))))
    · rw [if_neg (by omega), if_neg (by omega), if_pos hk] at ih
      exact ev_if_neg (by omega) (ev_if_neg (by omega) (ev_if_pos hk (ev_if_pos (by omega) (ev_if_pos (by simp only [ByteArray.size_append, sz5]; omega) (ev_if_pos (by simp only [ByteArray.size_append, sz5, sz1]; omega) (ev_if_pos hl ih))))))
    · rw [if_neg (by omega), if_neg (by omega), if_neg (by omega), if_neg (by omega)] at ih
      exact ev_if_neg (by omega) (ev_if_neg (by omega) (ev_if_neg (by omega) (ev_if_neg (by omega) (ev_if_pos hl ih))))
    · rw [if_neg (by omega), if_neg (by omega), if_neg (by omega), if_pos hk] at ih
      exact ev_if_neg (by omega) (ev_if_neg (by omega) (ev_if_neg (by omega) (ev_if_pos hk (ev_if_pos (by omega) (ev_if_pos hl ih)))))
theorem implSelectorText_ev (xs : List ITerm) (h : wfITerms xs) : Ev (fun k => impl_SelectorText.f k xs) (selTxt xs) := by
  unfold impl_SelectorText.f selTxt
  refine Ev.bind (implSelectorOk_ev xs h) ?_
  by_cases c : selB xs = true
  · rw [if_pos c]
    exact ev_if_pos c (implSelectorText_l0 xs c xs.length 0 (by omega))
  · rw [if_neg c]
    exact ev_if_neg c (Ev.now _)
end Go.Proofs.YtpjpnppoejnafaaDoor.G

/- PByte -/
/-
  Texts as lists of bytes.
-/
namespace Go.Proofs.YtpjpnppoejnafaaDoor.G
open Go.RowKit Go.Proofs.YtpjpnppoejnafaaDoorW.PrintWords Go.Proofs.YtpjpnppoejnafaaDoorW.PrintLast Go.Proofs.YtpjpnppoejnafaaDoorW.PrintMore
set_option linter.unusedVariables false
set_option linter.unusedSimpArgs false
def mkb (l : List UInt8) : ByteArray := ⟨l.toArray⟩
theorem mkb_data (l : List UInt8) : (mkb l).data.toList = l := rfl
theorem mkb_of (s : ByteArray) : mkb s.data.toList = s := by obtain ⟨⟨l⟩⟩ := s; rfl
theorem ext_data (s : ByteArray) (a b : Nat) : (s.extract a b).data.toList = (s.data.toList.drop a).take (b - a) := by
  obtain ⟨⟨l⟩⟩ := s
  rw [ByteArray.data_extract]
  simp [List.extract_eq_take_drop]
theorem bt_byte (s : ByteArray) (c : UInt8) {i : Nat} (h : i < s.data.toList.length) : (bt s (i : Int) = (c.toNat : Int)) ↔ s.data.toList[i] = c := by
  have hs : i < s.size := by rw [Array.length_toList] at h; exact h
  have e : bt s (i : Int) = ((s.data.toList[i]'h).toNat : Int) := by
    unfold bt
    rw [dif_pos (by rw [Int.toNat_natCast]; exact hs)]
    rfl
  rw [e]
  constructor
  · intro h2; exact UInt8.toNat_inj.1 (by omega)
  · intro h2; rw [h2]
theorem size_data (s : ByteArray) : s.size = s.data.toList.length := by rw [Array.length_toList]; rfl
end Go.Proofs.YtpjpnppoejnafaaDoor.G

/- G34 -/
-- Laid by wip/g/gprint.py out of the translation, by the kit's print program. Lean checks it.
namespace Go.Proofs.YtpjpnppoejnafaaDoor.G
open Go.RowKit Go.Proofs.YtpjpnppoejnafaaDoorW.PrintWords Go.Proofs.YtpjpnppoejnafaaDoorW.PrintLast Go.Proofs.YtpjpnppoejnafaaDoorW.PrintMore
attribute [local go_sem] max2_int min2_int max_two min_two max_three min_three max_four min_four   -- for this text's walks alone
set_option linter.unusedVariables false
set_option linter.unusedSimpArgs false

/-! ### spec_l1Split: function 34 -/
end Go.Proofs.YtpjpnppoejnafaaDoor.G

/- GKShape -/
/-
  A variable of the library's own that some calls read: its cell holds some number.
-/
namespace Go.Proofs.YtpjpnppoejnafaaDoor.G
open Go.RowKit Go.Proofs.YtpjpnppoejnafaaDoorW.PrintWords Go.Proofs.YtpjpnppoejnafaaDoorW.PrintLast Go.Proofs.YtpjpnppoejnafaaDoorW.PrintMore
set_option linter.unusedVariables false
def SH (w : World) : Prop := ∃ m, w.cell? ⟨0, 0, none⟩ = some (.int .i64 m)
theorem SH.below {w W : World} (h : SH w) (hb : Below w.heap.size w W) : SH W := by
  obtain ⟨m, hm⟩ := h
  exact ⟨m, pw_cell_below hb hm⟩
theorem SH.mv {w W W' : World} (h : SH w) (hb : Aside0 (Below w.heap.size w W)) [q : Gr W W'] : SH W' := h.below (qB hb)
theorem SH.of {w : World} (h : w.ShapedOpen Tryd.prog) : SH w :=
  cell_of_shapedOpen_int h (t := 3) (zero := #[.int .i64 0]) (of_decide_eq_true (by kernel_rfl)) (by kernel_rfl) rfl (by kernel_rfl) (by kernel_rfl) Tryd.underlying3
end Go.Proofs.YtpjpnppoejnafaaDoor.G

/- G36 -/
-- Laid by wip/g/gprint.py out of the translation, by the kit's print program. Lean checks it.
namespace Go.Proofs.YtpjpnppoejnafaaDoor.G
open Go.RowKit Go.Proofs.YtpjpnppoejnafaaDoorW.PrintWords Go.Proofs.YtpjpnppoejnafaaDoorW.PrintLast Go.Proofs.YtpjpnppoejnafaaDoorW.PrintMore
attribute [local go_sem] max2_int min2_int max_two min_two max_three min_three max_four min_four   -- for this text's walks alone
set_option linter.unusedVariables false
set_option linter.unusedSimpArgs false

/-! ### strings_Split: function 36 -/
--IMPORT Derived.Test.YtpjpnppoejnafaaDoorShelf
--IMPORT Derived.Test.YtpjpnppoejnafaaDoorGKShape
--IMPORT Derived.Lib.SplitLaws
def strings_Split.f (a0 : ByteArray) (a1 : ByteArray) : Option (List ByteArray) :=
  if a0.size < 4294967281 ∧ 1 ≤ a1.size then some (Lib.splitB a1 0 (Lib.countB a0 a1) a0) else none
theorem strings_Split.calls (a0 : ByteArray) (a1 : ByteArray) (r : List ByteArray) (w : World) (hsh_ : SH w) (h : strings_Split.f a0 a1 = some r) :
    Calls Tryd.prog 36 #[.string a0, .string a1] w fun e w' => ∃ v0_ : Value, e = .returned (v0_) ∧ Kd.R Kd.string 9 w' w.heap.size (fun _ => True) v0_ r ∧ Below w.heap.size w w' := by
  unfold strings_Split.f at h
  obtain ⟨m, hm⟩ := hsh_
  by_cases hl : a0.size < 4294967281 ∧ 1 ≤ a1.size
  · rw [if_pos hl] at h
    obtain rfl := Option.some.inj h
    refine (Tryd.strings_Split a0 a1 m w hl.1 hm hl.2).mono ?_
    rintro e w' ⟨rfl, rfl⟩
    have hlen := Lib.splitB_all a1 hl.2 0 _ a0 rfl
    have hcl := Lib.countB_le a1 hl.2 _ a0 (Nat.le_refl _)
    have ho := own_lit_of (enc := Value.string) w w.heap.size 9 (Lib.splitB a1 0 (Lib.countB a0 a1) a0) (Nat.le_refl _) (by omega)
    rw [hlen] at ho
    exact ⟨_, rfl, Kd.R_of_own (h1 := fun _ => rfl) (by rw [hlen]; exact ho) (fun _ _ => trivial), below_alloc (Below.refl _ _) _⟩
  · rw [if_neg hl] at h
    cases h

end Go.Proofs.YtpjpnppoejnafaaDoor.G

/- PSplit -/
/-
  A text split by a byte: the reference's way and the library's come to one list; its parts joined are the text again.
-/
namespace Go.Proofs.YtpjpnppoejnafaaDoor.G
open Go.RowKit Go.Proofs.YtpjpnppoejnafaaDoorW.PrintWords Go.Proofs.YtpjpnppoejnafaaDoorW.PrintLast Go.Proofs.YtpjpnppoejnafaaDoorW.PrintMore
set_option linter.unusedVariables false
set_option linter.unusedSimpArgs false
def spl (c : UInt8) : List UInt8 → List (List UInt8)
  | [] => [[]]
  | b :: t => if b = c then [] :: spl c t else match spl c t with
    | [] => [[b]]
    | x :: xs => (b :: x) :: xs
theorem spl_length (c : UInt8) : ∀ l : List UInt8, (spl c l).length ≤ l.length + 1
  | [] => by simp [spl]
  | b :: t => by
    have := spl_length c t
    rw [spl]
    split
    · simp; omega
    · split
      · simp
      · rename_i h; rw [h] at this; simp at this ⊢; omega
/-- A part is no longer than the text. -/
theorem spl_part (c : UInt8) : ∀ (l x : List UInt8), x ∈ spl c l → x.length ≤ l.length
  | [], x, h => by simp [spl] at h; simp [h]
  | b :: t, x, h => by
    have ih := spl_part c t
    rw [spl] at h
    split at h
    · rcases List.mem_cons.1 h with rfl | h
      · simp
      · have := ih x h; simp; omega
    · split at h
      · simp at h; simp [h]
      · rename_i y ys hy
        rcases List.mem_cons.1 h with rfl | h
        · have := ih y (by rw [hy]; simp); simp; omega
        · have := ih x (by rw [hy]; simp [h]); simp; omega
theorem spl_none (c : UInt8) : ∀ (l : List UInt8), c ∉ l → spl c l = [l]
  | [], _ => rfl
  | b :: t, h => by
    simp only [List.mem_cons, not_or] at h
    rw [spl, if_neg (fun e => h.1 e.symm), spl_none c t h.2]
theorem spl_app (c : UInt8) : ∀ (l t : List UInt8), c ∉ l → spl c (l ++ c :: t) = l :: spl c t
  | [], t, _ => by rw [List.nil_append, spl, if_pos rfl]
  | b :: l, t, h => by
    simp only [List.mem_cons, not_or] at h
    rw [List.cons_append, spl, if_neg (fun e => h.1 e.symm), spl_app c l t h.2]
theorem join_cons (x : List UInt8) (xs : List (List UInt8)) (s : List UInt8) (h : xs ≠ []) : Lib.join (x :: xs) s = x ++ s ++ Lib.join xs s := by
  cases xs with
  | nil => exact absurd rfl h
  | cons y ys => simp [Lib.join]
/-- Parts without the byte, joined by it, are found again. -/
theorem spl_join (c : UInt8) : ∀ (xs : List (List UInt8)), xs ≠ [] → (∀ x ∈ xs, c ∉ x) → spl c (Lib.join xs [c]) = xs
  | [], h, _ => absurd rfl h
  | [x], _, h => by
    rw [show Lib.join [x] [c] = x by simp [Lib.join]]
    exact spl_none c x (h x (by simp))
  | x :: y :: ys, _, h => by
    rw [join_cons _ _ _ (by simp), List.append_assoc, List.singleton_append, spl_app c x _ (h x (by simp)), spl_join c (y :: ys) (by simp) (fun z hz => h z (by simp [hz]))]
/-! ### the library's -/
theorem spl_index (c : UInt8) : ∀ (l : List UInt8), (Lib.index l [c] = -1 → spl c l = [l]) ∧ ∀ i : Nat, Lib.index l [c] = i → spl c l = l.take i :: spl c (l.drop (i + 1))
  | [] => by
    refine ⟨fun _ => rfl, fun i h => ?_⟩
    simp [Lib.index] at h
  | b :: t => by
    obtain ⟨h1, h2⟩ := spl_index c t
    rw [Lib.index]
    by_cases hb : b = c
    · subst hb
      have hp : List.isPrefixOf [b] (b :: t) = true := by simp [List.isPrefixOf]
      rw [if_pos hp]
      refine ⟨fun h => by omega, fun i h => ?_⟩
      obtain rfl : i = 0 := by omega
      rw [spl, if_pos rfl]; simp
    · have hp : ¬ List.isPrefixOf [c] (b :: t) = true := by
        simp [List.isPrefixOf]; exact fun e => hb e.symm
      rw [if_neg hp]
      by_cases hm : Lib.index t [c] = -1
      · rw [if_pos (beq_iff_eq.2 hm)]
        refine ⟨fun _ => ?_, fun i h => by omega⟩
        rw [spl, if_neg hb, h1 hm]
      · rw [if_neg (fun e => hm (beq_iff_eq.1 e))]
        obtain ⟨j, hj⟩ : ∃ j : Nat, Lib.index t [c] = j := by
          rcases Lib.index_spec t [c] with h | ⟨j, h, _⟩
          · exact absurd h.1 hm
          · exact ⟨j, h⟩
        refine ⟨fun h => by omega, fun i h => ?_⟩
        obtain rfl : i = j + 1 := by omega
        rw [spl, if_neg hb, h2 j hj]; simp
theorem splitK_spl (c : UInt8) : ∀ (k : Nat) (l : List UInt8), Lib.count l [c] = k → Lib.splitK [c] 0 k l = spl c l
  | 0, l, h => by
    rcases Lib.index_spec l [c] with hm | ⟨i, hi, _⟩
    · rw [Lib.splitK, (spl_index c l).1 hm.1]
    · rw [Lib.count_hit (by simp) hi] at h; omega
  | k + 1, l, h => by
    rw [Lib.splitK]
    rcases Lib.index_spec l [c] with hm | ⟨i, hi, _⟩
    · rw [if_pos (beq_iff_eq.2 hm.1), (spl_index c l).1 hm.1]
    · rw [Lib.count_hit (by simp) hi] at h
      have e : (Lib.index l [c]).toNat = i := by omega
      rw [if_neg (fun e => by have := beq_iff_eq.1 e; omega), (spl_index c l).2 i hi, e, List.length_singleton, Nat.add_zero, splitK_spl c k _ (by rw [List.length_singleton] at h; omega)]
theorem splitB_spl (c : UInt8) (s : ByteArray) : Lib.splitB ⟨#[c]⟩ 0 (Lib.countB s ⟨#[c]⟩) s = (spl c s.data.toList).map mkb := by
  have h := Lib.splitB_data ⟨#[c]⟩ 0 (Lib.countB s ⟨#[c]⟩) s
  have e : Lib.splitK [c] 0 (Lib.countB s ⟨#[c]⟩) s.data.toList = spl c s.data.toList := splitK_spl c _ _ rfl
  have h2 : (Lib.splitB ⟨#[c]⟩ 0 (Lib.countB s ⟨#[c]⟩) s).map (·.data.toList) = spl c s.data.toList := h.trans e
  rw [← h2, List.map_map]
  exact (List.map_id'' (fun x => mkb_of x) _).symm
theorem split_f (c : UInt8) (s : ByteArray) (h : s.size < 4294967281) : strings_Split.f s ⟨#[c]⟩ = some ((spl c s.data.toList).map mkb) := by
  unfold strings_Split.f
  rw [if_pos ⟨h, Nat.le_refl 1⟩, splitB_spl]
/-! ### the reference's -/
end Go.Proofs.YtpjpnppoejnafaaDoor.G

/- G23 -/
-- Laid by wip/g/gprint.py out of the translation, by the kit's print program. Lean checks it.
namespace Go.Proofs.YtpjpnppoejnafaaDoor.G
open Go.RowKit Go.Proofs.YtpjpnppoejnafaaDoorW.PrintWords Go.Proofs.YtpjpnppoejnafaaDoorW.PrintLast Go.Proofs.YtpjpnppoejnafaaDoorW.PrintMore
attribute [local go_sem] max2_int min2_int max_two min_two max_three min_three max_four min_four   -- for this text's walks alone
set_option linter.unusedVariables false
set_option linter.unusedSimpArgs false

/-! ### impl_LabelsText: function 23 -/
end Go.Proofs.YtpjpnppoejnafaaDoor.G

/- PLabText -/
/-
  LabelsText, the program's: labels that are right as one text.
-/
namespace Go.Proofs.YtpjpnppoejnafaaDoor.G
open Go.RowKit Go.Proofs.YtpjpnppoejnafaaDoorW.PrintWords Go.Proofs.YtpjpnppoejnafaaDoorW.PrintLast Go.Proofs.YtpjpnppoejnafaaDoorW.PrintMore
set_option linter.unusedVariables false
set_option linter.unusedSimpArgs false
end Go.Proofs.YtpjpnppoejnafaaDoor.G

/- G37 -/
-- Laid by wip/g/gprint.py out of the translation, by the kit's print program. Lean checks it.
namespace Go.Proofs.YtpjpnppoejnafaaDoor.G
open Go.RowKit Go.Proofs.YtpjpnppoejnafaaDoorW.PrintWords Go.Proofs.YtpjpnppoejnafaaDoorW.PrintLast Go.Proofs.YtpjpnppoejnafaaDoorW.PrintMore
attribute [local go_sem] max2_int min2_int max_two min_two max_three min_three max_four min_four   -- for this text's walks alone
set_option linter.unusedVariables false
set_option linter.unusedSimpArgs false

/-! ### strings_Cut: function 37 -/
--IMPORT Derived.Test.YtpjpnppoejnafaaDoorShelf
--IMPORT Derived.Test.YtpjpnppoejnafaaDoorGKShape
def strings_Cut.f (a0 : ByteArray) (a1 : ByteArray) : Option (ByteArray × ByteArray × Bool) :=
  if a0.size < 4294967281 then some (⟨(Lib.cut a0.data.toList a1.data.toList).1.toArray⟩, ⟨(Lib.cut a0.data.toList a1.data.toList).2.1.toArray⟩, (Lib.cut a0.data.toList a1.data.toList).2.2) else none
theorem strings_Cut.calls (a0 : ByteArray) (a1 : ByteArray) (r1 : ByteArray) (r2 : ByteArray) (r3 : Bool) (w : World) (hsh_ : SH w) (h : strings_Cut.f a0 a1 = some (r1, r2, r3)) :
    Calls Tryd.prog 37 #[.string a0, .string a1] w fun e w' => e = .returned (.tuple #[.string r1, .string r2, .bool r3]) ∧ Drawn0 w w' := by
  unfold strings_Cut.f at h
  obtain ⟨m, hm⟩ := hsh_
  by_cases hl : a0.size < 4294967281
  · rw [if_pos hl] at h
    cases h
    refine (Tryd.strings_Cut a0 a1 m w hl hm).mono ?_
    rintro e w' ⟨rfl, hd⟩
    exact ⟨rfl, ⟨hd⟩⟩
  · rw [if_neg hl] at h
    cases h

end Go.Proofs.YtpjpnppoejnafaaDoor.G

/- G8 -/
-- Laid by wip/g/gprint.py out of the translation, by the kit's print program. Lean checks it.
namespace Go.Proofs.YtpjpnppoejnafaaDoor.G
open Go.RowKit Go.Proofs.YtpjpnppoejnafaaDoorW.PrintWords Go.Proofs.YtpjpnppoejnafaaDoorW.PrintLast Go.Proofs.YtpjpnppoejnafaaDoorW.PrintMore
attribute [local go_sem] max2_int min2_int max_two min_two max_three min_three max_four min_four   -- for this text's walks alone
set_option linter.unusedVariables false
set_option linter.unusedSimpArgs false

--IMPORT Derived.Test.YtpjpnppoejnafaaDoorGKShape
/-! ### impl_ParseLabels: function 8 -/
end Go.Proofs.YtpjpnppoejnafaaDoor.G

/- G7 -/
-- Laid by wip/g/gprint.py out of the translation, by the kit's print program. Lean checks it.
namespace Go.Proofs.YtpjpnppoejnafaaDoor.G
open Go.RowKit Go.Proofs.YtpjpnppoejnafaaDoorW.PrintWords Go.Proofs.YtpjpnppoejnafaaDoorW.PrintLast Go.Proofs.YtpjpnppoejnafaaDoorW.PrintMore
attribute [local go_sem] max2_int min2_int max_two min_two max_three min_three max_four min_four   -- for this text's walks alone
set_option linter.unusedVariables false
set_option linter.unusedSimpArgs false

/-! ### spec_ParseLabels: function 7 -/
end Go.Proofs.YtpjpnppoejnafaaDoor.G

/- PParseLab -/
/-
  ParseLabels: the program's and the reference's come to one answer; what LabelsText wrote is read again.
-/
namespace Go.Proofs.YtpjpnppoejnafaaDoor.G
open Go.RowKit Go.Proofs.YtpjpnppoejnafaaDoorW.PrintWords Go.Proofs.YtpjpnppoejnafaaDoorW.PrintLast Go.Proofs.YtpjpnppoejnafaaDoorW.PrintMore
set_option linter.unusedVariables false
set_option linter.unusedSimpArgs false
theorem tl_eq {a b : ByteArray} : a.toList = b.toList ↔ a = b := by
  constructor
  · intro h
    rw [ByteArray.toList_eq, ByteArray.toList_eq] at h
    exact ba_eq h
  · rintro rfl; rfl
theorem tl_nil {a : ByteArray} : a.toList = [] ↔ a.data.toList = [] := by rw [ByteArray.toList_eq]
theorem nameB_no {s : ByteArray} (h : nameB s = true) (c : UInt8) (hc : chB c.toNat = false) : c ∉ s.data.toList := by
  intro hm
  obtain ⟨i, hi, he⟩ := List.getElem_of_mem hm
  simp only [nameB, Bool.and_eq_true] at h
  have := allN_true.1 h.1 i (by rw [size_data]; exact hi)
  rw [(bt_byte s c hi).2 he, hc] at this
  cases this
/-! ### a part, cut -/
theorem mkb_size (l : List UInt8) : (mkb l).size = l.length := by rw [size_data, mkb_data]
theorem jn_data (xs : List ByteArray) (c : UInt8) : (jn xs ⟨#[c]⟩).data.toList = Lib.join (xs.map (·.data.toList)) [c] := rfl
theorem parts_len {s : ByteArray} (hs : s.size ≤ 1048576) : (spl 44 s.data.toList).length ≤ 1048577 := by
  have := spl_length 44 s.data.toList
  rw [← size_data] at this; omega
theorem part_len {s : ByteArray} (hs : s.size ≤ 1048576) {p : List UInt8} (h : p ∈ spl 44 s.data.toList) : p.length ≤ 1048576 := by
  have := spl_part 44 _ p h
  rw [← size_data] at this; omega
/-! ### the program's -/
/-! ### the reference's -/
end Go.Proofs.YtpjpnppoejnafaaDoor.G
