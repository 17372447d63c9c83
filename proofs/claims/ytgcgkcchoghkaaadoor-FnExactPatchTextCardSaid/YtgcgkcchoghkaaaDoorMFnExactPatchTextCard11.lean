import Derived.Test.YtgcgkcchoghkaaaDoorMFnExactPatchTextCard1
import Derived.Test.YtgcgkcchoghkaaaDoorMFnExactPatchTextCard10
import Derived.Test.YtgcgkcchoghkaaaDoorMFnExactPatchTextCard9
import Derived.Laws.IdiomCopy
import Derived.Deep.AppendSrc
import Derived.Test.YtgcgkcchoghkaaaDoorMFnExactPatchTextCard4
import Derived.Test.YtgcgkcchoghkaaaDoorMFnExactPatchTextCard5
/- G15 -/
-- Laid by wip/g/gprint.py out of the translation, by the kit's print program. Lean checks it.
namespace Go.Proofs.YtgcgkcchoghkaaaDoor.G
open Go.RowKit Go.Proofs.YtgcgkcchoghkaaaDoorW.PrintWords Go.Proofs.YtgcgkcchoghkaaaDoorW.PrintLast Go.Proofs.YtgcgkcchoghkaaaDoorW.PrintMore
attribute [local go_sem] max2_int min2_int max_two min_two max_three min_three max_four min_four   -- for this text's walks alone
set_option linter.unusedVariables false
set_option linter.unusedSimpArgs false

--IMPORT Derived.Test.YtgcgkcchoghkaaaDoorGKShape
/-! ### impl_ValueText: function 15 -/
def impl_ValueText.f (k : Nat) (a0_0 : Int) (a0_1 : ByteArray) (a0_2 : Int) (l0_3 : List ByteArray) (l0_4 : List (S39)) : Option (ByteArray) := (impl_ValueOk.f k a0_0 a0_1 a0_2 l0_3 l0_4).bind fun t311 => (if t311 = true then ((impl_written.f k a0_0 a0_1 a0_2 l0_3 l0_4).bind fun t312 => (some t312)) else (some (⟨#[]⟩ : ByteArray)))
set_option maxHeartbeats 8000000 in
set_option maxRecDepth 100000 in
theorem impl_ValueText.calls (k : Nat) (a0_0 : Int) (a0_1 : ByteArray) (a0_2 : Int) (A0_3 : Option Addr) (c0_3 : Nat) (l0_3 : List ByteArray) (A0_4 : Option Addr) (c0_4 : Nat) (l0_4 : List (S39)) (r : ByteArray) (w : World) (hr0_3 : Kd.C Kd.string w A0_3 l0_3.length l0_3) (hc0_3 : l0_3.length ≤ c0_3) (hr0_4 : Kd.C k39 w A0_4 l0_4.length l0_4) (hc0_4 : l0_4.length ≤ c0_4) (hsh_ : SH w) (h : impl_ValueText.f k a0_0 a0_1 a0_2 l0_3 l0_4 = some r) :
    Calls Tryd.prog 15 #[.agg #[.int .i64 a0_0, .string a0_1, .int .i64 a0_2, .slice A0_3 l0_3.length c0_3, .slice A0_4 l0_4.length c0_4]] w fun e w' => e = .returned (.string r) ∧ Below w.heap.size w w' := by
  have hu39 := Tryd.underlying39
  have HR0_3 := Aside0.mk hr0_3
  have HC0_3 := Aside0.mk hc0_3
  clear hr0_3 hc0_3
  have HR0_4 := Aside0.mk hr0_4
  have HC0_4 := Aside0.mk hc0_4
  clear hr0_4 hc0_4
  have HB := Aside0.mk (Below.refl w.heap.size w)
  have H : ((impl_ValueOk.f k a0_0 a0_1 a0_2 l0_3 l0_4).bind fun t311 => (if t311 = true then ((impl_written.f k a0_0 a0_1 a0_2 l0_3 l0_4).bind fun t312 => (some t312)) else (some (⟨#[]⟩ : ByteArray)))) = some r := h
  clear h
  replace H := Option.bind_eq_some_iff.mp H
  obtain ⟨t311, A20, H⟩ := H
  replace H : (if t311 = true then ((impl_written.f k a0_0 a0_1 a0_2 l0_3 l0_4).bind fun t312 => (some t312)) else (some (⟨#[]⟩ : ByteArray))) = some r := H
  have A2 := Aside0.mk A20
  clear A20
  by_cases c3 : t311 = true
  · subst c3
    have H1 : ((impl_written.f k a0_0 a0_1 a0_2 l0_3 l0_4).bind fun t312 => (some t312)) = some r := by rw [if_pos rfl] at H; exact H
    clear H
    have H := H1
    clear H1
    replace H := Option.bind_eq_some_iff.mp H
    obtain ⟨t312, A40, H⟩ := H
    replace H : (some t312) = some r := H
    have A4 := Aside0.mk A40
    clear A40
    obtain rfl := Option.some.inj H
    go_enter Tryd.func15, Tryd.ntmps15
    go_wp2_with (first | ((with_reducible refine gate_dst (N := 1) rfl ?_); refine box_event ?hg (N := 1) ?hd (cs := #[.int .i64 a0_0, .string a0_1, .int .i64 a0_2, .slice A0_3 l0_3.length c0_3, .slice A0_4 l0_4.length c0_4]) (t := 39) ?hr ?_; (case hd => rfl); (case hg => rfl); (case hr => first | (go_simp; done) | (go_simp; rfl)); intro gb310 hg w5 hbox hb; have n0_ := Aside0.mk (below_step (by repeat (first | (with_reducible first | exact HB.out | apply below_alloc | apply pw_below_drewN | apply below_drew1) | exact HB.out)) hb); have n1_ := Aside0.mk (hbox); have n2_ := Aside0.mk ((by rw [hg]; exact (below_size (by repeat (first | (with_reducible first | exact HB.out | apply below_alloc | apply pw_below_drewN | apply below_drew1) | exact HB.out))) : w.heap.size ≤ gb310)); have n3_ := Aside0.mk ((by rw [hg]; exact (below_size (by repeat (first | (with_reducible first | exact HB.out | apply below_alloc | apply pw_below_drewN | apply below_drew1) | exact HB.out))) : w.heap.size ≤ gb310)); clear HB; have HB := n0_; have BK310 := n1_; have GW310 := n2_; have GE310 := n3_; clear n0_ n1_ n2_ n3_; clear hb hbox hg; have hcz6_0 : w5.cell? ⟨gb310, 0, none⟩ = some (.int .i64 a0_0) := (blk_cell BK310.out 0).trans rfl; have hcz6_1 : w5.cell? ⟨gb310, 1, none⟩ = some (.string a0_1) := (blk_cell BK310.out 1).trans rfl; have hcz6_2 : w5.cell? ⟨gb310, 2, none⟩ = some (.int .i64 a0_2) := (blk_cell BK310.out 2).trans rfl; have hcz6_3 : w5.cell? ⟨gb310, 3, none⟩ = some (.slice A0_3 l0_3.length c0_3) := (blk_cell BK310.out 3).trans rfl; have hcz6_4 : w5.cell? ⟨gb310, 4, none⟩ = some (.slice A0_4 l0_4.length c0_4) := (blk_cell BK310.out 4).trans rfl; have hfz6_0 := blk_frozen BK310.out 0; have hfz6_1 := blk_frozen BK310.out 1; have hfz6_2 := blk_frozen BK310.out 2; have hfz6_3 := blk_frozen BK310.out 3; have hfz6_4 := blk_frozen BK310.out 4) | ((with_reducible refine gate_callee (f := 33) rfl ?_); refine goesL_ (some 4) rfl rfl Tryd.func33 (by kernel_rfl) rfl #[.agg #[.int .i64 a0_0, .string a0_1, .int .i64 a0_2, .slice A0_3 l0_3.length c0_3, .slice A0_4 l0_4.length c0_4]] rfl (by (try simp only [List.map_toArray, List.map_cons, List.map_nil]); first | done | rfl | (simp only [List.length_drop, List.length_take]; rfl)) ?_; (with_reducible refine (impl_ValueOk.calls k a0_0 a0_1 a0_2 _ _ l0_3 _ _ l0_4 true _ ?side1 ?side2 ?side3 ?side4 A2.out).mono ?_); (case side1 => repeat (first | exact (Kd.C_below HR0_3.out HB.out) | (with_reducible refine Kd.C_alloc ?_ _) | (with_reducible refine Kd.C_drewN ?_ _) | (with_reducible refine Kd.C_drew ?_))); (case side2 => exact HC0_3.out); (case side3 => repeat (first | exact (Kd.C_below HR0_4.out HB.out) | (with_reducible refine Kd.C_alloc ?_ _) | (with_reducible refine Kd.C_drewN ?_ _) | (with_reducible refine Kd.C_drew ?_))); (case side4 => exact HC0_4.out); rintro e w7 ⟨rfl, hb⟩; refine ⟨_, rfl, ?_⟩; have n0_ := Aside0.mk (blk_below (g := gb310) (o := .cells #[.int .i64 a0_0, .string a0_1, .int .i64 a0_2, .slice A0_3 l0_3.length c0_3, .slice A0_4 l0_4.length c0_4] 39 (0, 0)) (by (with_reducible repeat (first | refine blk_drewN ?_ _ | refine blk_drew ?_ | refine blk_alloc ?_ _)); exact BK310.out) hb); have n1_ := Aside0.mk (below_step (by repeat (first | (with_reducible first | exact HB.out | apply below_alloc | apply pw_below_drewN | apply below_drew1 | refine below_set ?_ GE310.out) | exact HB.out)) hb); clear BK310; clear HB; have BK310 := n0_; have HB := n1_; clear n0_ n1_; (try clear hb); (try clear hb2); (try clear hk); (try clear hi); have hcz8_0 : w7.cell? ⟨gb310, 0, none⟩ = some (.int .i64 a0_0) := (blk_cell BK310.out 0).trans rfl; have hcz8_1 : w7.cell? ⟨gb310, 1, none⟩ = some (.string a0_1) := (blk_cell BK310.out 1).trans rfl; have hcz8_2 : w7.cell? ⟨gb310, 2, none⟩ = some (.int .i64 a0_2) := (blk_cell BK310.out 2).trans rfl; have hcz8_3 : w7.cell? ⟨gb310, 3, none⟩ = some (.slice A0_3 l0_3.length c0_3) := (blk_cell BK310.out 3).trans rfl; have hcz8_4 : w7.cell? ⟨gb310, 4, none⟩ = some (.slice A0_4 l0_4.length c0_4) := (blk_cell BK310.out 4).trans rfl; have hfz8_0 := blk_frozen BK310.out 0; have hfz8_1 := blk_frozen BK310.out 1; have hfz8_2 := blk_frozen BK310.out 2; have hfz8_3 := blk_frozen BK310.out 3; have hfz8_4 := blk_frozen BK310.out 4) | ((with_reducible refine gate_callee (f := 34) rfl ?_); refine goesL_ (some 7) rfl rfl Tryd.func34 (by kernel_rfl) rfl #[.agg #[.int .i64 a0_0, .string a0_1, .int .i64 a0_2, .slice A0_3 l0_3.length c0_3, .slice A0_4 l0_4.length c0_4]] rfl (by (try simp only [List.map_toArray, List.map_cons, List.map_nil]); first | done | rfl | (simp only [List.length_drop, List.length_take]; rfl)) ?_; (with_reducible refine (impl_written.calls k a0_0 a0_1 a0_2 _ _ l0_3 _ _ l0_4 t312 _ ?side1 ?side2 ?side3 ?side4 (SH.below hsh_ (by repeat (first | (with_reducible first | exact HB.out | apply below_alloc | apply pw_below_drewN | apply below_drew1 | refine below_set ?_ GE310.out) | exact HB.out))) A4.out).mono ?_); (case side1 => repeat (first | exact (Kd.C_below HR0_3.out HB.out) | (with_reducible refine Kd.C_alloc ?_ _) | (with_reducible refine Kd.C_drewN ?_ _) | (with_reducible refine Kd.C_drew ?_))); (case side2 => exact HC0_3.out); (case side3 => repeat (first | exact (Kd.C_below HR0_4.out HB.out) | (with_reducible refine Kd.C_alloc ?_ _) | (with_reducible refine Kd.C_drewN ?_ _) | (with_reducible refine Kd.C_drew ?_))); (case side4 => exact HC0_4.out); rintro e w9 ⟨rfl, hb⟩; refine ⟨_, rfl, ?_⟩; have n0_ := Aside0.mk (blk_below (g := gb310) (o := .cells #[.int .i64 a0_0, .string a0_1, .int .i64 a0_2, .slice A0_3 l0_3.length c0_3, .slice A0_4 l0_4.length c0_4] 39 (0, 0)) (by (with_reducible repeat (first | refine blk_drewN ?_ _ | refine blk_drew ?_ | refine blk_alloc ?_ _)); exact BK310.out) hb); have n1_ := Aside0.mk (below_step (by repeat (first | (with_reducible first | exact HB.out | apply below_alloc | apply pw_below_drewN | apply below_drew1 | refine below_set ?_ GE310.out) | exact HB.out)) hb); clear BK310; clear HB; have BK310 := n0_; have HB := n1_; clear n0_ n1_; (try clear hb); (try clear hb2); (try clear hk); (try clear hi)))
    go_ret
    exact ⟨by first | rfl | (simp [errW_none, errW_some] <;> rfl) | (simp [*, errW_none, errW_some] <;> rfl), by repeat (first | (with_reducible first | exact HB.out | apply below_alloc | apply pw_below_drewN | apply below_drew1 | refine below_set ?_ GE310.out) | exact HB.out)⟩
  · replace c3 := Bool.eq_false_iff.mpr c3
    subst c3
    have H1 : (some (⟨#[]⟩ : ByteArray)) = some r := by rw [if_neg (show ¬ (false = true) by decide)] at H; exact H
    clear H
    have H := H1
    clear H1
    obtain rfl := Option.some.inj H
    go_enter Tryd.func15, Tryd.ntmps15
    go_wp2_with (first | ((with_reducible refine gate_dst (N := 1) rfl ?_); refine box_event ?hg (N := 1) ?hd (cs := #[.int .i64 a0_0, .string a0_1, .int .i64 a0_2, .slice A0_3 l0_3.length c0_3, .slice A0_4 l0_4.length c0_4]) (t := 39) ?hr ?_; (case hd => rfl); (case hg => rfl); (case hr => first | (go_simp; done) | (go_simp; rfl)); intro gb310 hg w10 hbox hb; have n0_ := Aside0.mk (below_step (by repeat (first | (with_reducible first | exact HB.out | apply below_alloc | apply pw_below_drewN | apply below_drew1) | exact HB.out)) hb); have n1_ := Aside0.mk (hbox); have n2_ := Aside0.mk ((by rw [hg]; exact (below_size (by repeat (first | (with_reducible first | exact HB.out | apply below_alloc | apply pw_below_drewN | apply below_drew1) | exact HB.out))) : w.heap.size ≤ gb310)); have n3_ := Aside0.mk ((by rw [hg]; exact (below_size (by repeat (first | (with_reducible first | exact HB.out | apply below_alloc | apply pw_below_drewN | apply below_drew1) | exact HB.out))) : w.heap.size ≤ gb310)); clear HB; have HB := n0_; have BK310 := n1_; have GW310 := n2_; have GE310 := n3_; clear n0_ n1_ n2_ n3_; clear hb hbox hg; have hcz11_0 : w10.cell? ⟨gb310, 0, none⟩ = some (.int .i64 a0_0) := (blk_cell BK310.out 0).trans rfl; have hcz11_1 : w10.cell? ⟨gb310, 1, none⟩ = some (.string a0_1) := (blk_cell BK310.out 1).trans rfl; have hcz11_2 : w10.cell? ⟨gb310, 2, none⟩ = some (.int .i64 a0_2) := (blk_cell BK310.out 2).trans rfl; have hcz11_3 : w10.cell? ⟨gb310, 3, none⟩ = some (.slice A0_3 l0_3.length c0_3) := (blk_cell BK310.out 3).trans rfl; have hcz11_4 : w10.cell? ⟨gb310, 4, none⟩ = some (.slice A0_4 l0_4.length c0_4) := (blk_cell BK310.out 4).trans rfl; have hfz11_0 := blk_frozen BK310.out 0; have hfz11_1 := blk_frozen BK310.out 1; have hfz11_2 := blk_frozen BK310.out 2; have hfz11_3 := blk_frozen BK310.out 3; have hfz11_4 := blk_frozen BK310.out 4) | ((with_reducible refine gate_callee (f := 33) rfl ?_); refine goesL_ (some 4) rfl rfl Tryd.func33 (by kernel_rfl) rfl #[.agg #[.int .i64 a0_0, .string a0_1, .int .i64 a0_2, .slice A0_3 l0_3.length c0_3, .slice A0_4 l0_4.length c0_4]] rfl (by (try simp only [List.map_toArray, List.map_cons, List.map_nil]); first | done | rfl | (simp only [List.length_drop, List.length_take]; rfl)) ?_; (with_reducible refine (impl_ValueOk.calls k a0_0 a0_1 a0_2 _ _ l0_3 _ _ l0_4 false _ ?side1 ?side2 ?side3 ?side4 A2.out).mono ?_); (case side1 => repeat (first | exact (Kd.C_below HR0_3.out HB.out) | (with_reducible refine Kd.C_alloc ?_ _) | (with_reducible refine Kd.C_drewN ?_ _) | (with_reducible refine Kd.C_drew ?_))); (case side2 => exact HC0_3.out); (case side3 => repeat (first | exact (Kd.C_below HR0_4.out HB.out) | (with_reducible refine Kd.C_alloc ?_ _) | (with_reducible refine Kd.C_drewN ?_ _) | (with_reducible refine Kd.C_drew ?_))); (case side4 => exact HC0_4.out); rintro e w12 ⟨rfl, hb⟩; refine ⟨_, rfl, ?_⟩; have n0_ := Aside0.mk (blk_below (g := gb310) (o := .cells #[.int .i64 a0_0, .string a0_1, .int .i64 a0_2, .slice A0_3 l0_3.length c0_3, .slice A0_4 l0_4.length c0_4] 39 (0, 0)) (by (with_reducible repeat (first | refine blk_drewN ?_ _ | refine blk_drew ?_ | refine blk_alloc ?_ _)); exact BK310.out) hb); have n1_ := Aside0.mk (below_step (by repeat (first | (with_reducible first | exact HB.out | apply below_alloc | apply pw_below_drewN | apply below_drew1 | refine below_set ?_ GE310.out) | exact HB.out)) hb); clear BK310; clear HB; have BK310 := n0_; have HB := n1_; clear n0_ n1_; (try clear hb); (try clear hb2); (try clear hk); (try clear hi)))
    go_ret
    exact ⟨by first | rfl | (simp [errW_none, errW_some] <;> rfl) | (simp [*, errW_none, errW_some] <;> rfl), by repeat (first | (with_reducible first | exact HB.out | apply below_alloc | apply pw_below_drewN | apply below_drew1 | refine below_set ?_ GE310.out) | exact HB.out)⟩

end Go.Proofs.YtgcgkcchoghkaaaDoor.G

/- PValTextB -/
/-
  ValueText, both.
-/
namespace Go.Proofs.YtgcgkcchoghkaaaDoor.G
open Go.RowKit Go.Proofs.YtgcgkcchoghkaaaDoorW.PrintWords Go.Proofs.YtgcgkcchoghkaaaDoorW.PrintLast Go.Proofs.YtgcgkcchoghkaaaDoorW.PrintMore
set_option linter.unusedVariables false
set_option linter.unusedSimpArgs false
def valTxt (x : IVal) : ByteArray := if valB x = true then txtN 6 x else ⟨#[]⟩
theorem implValueText_ev {n : Nat} (x : IVal) (h : SmI n x) : Ev (fun k => impl_ValueText.f k x.f0 x.f1 x.f2 x.f3 x.f4) (valTxt x) := by
  unfold impl_ValueText.f valTxt
  refine Ev.bind (implValueOk_ev x h) ?_
  by_cases c : valB x = true
  · rw [if_pos c]
    exact ev_if_pos c (Ev.bind (written_ev 6 n x h (of_decide_eq_true c)) (Ev.now _))
  · rw [if_neg c]
    exact ev_if_neg c (Ev.now _)
end Go.Proofs.YtgcgkcchoghkaaaDoor.G

/- G59 -/
-- Laid by wip/g/gprint.py out of the translation, by the kit's print program. Lean checks it.
namespace Go.Proofs.YtgcgkcchoghkaaaDoor.G
open Go.RowKit Go.Proofs.YtgcgkcchoghkaaaDoorW.PrintWords Go.Proofs.YtgcgkcchoghkaaaDoorW.PrintLast Go.Proofs.YtgcgkcchoghkaaaDoorW.PrintMore
attribute [local go_sem] max2_int min2_int max_two min_two max_three min_three max_four min_four   -- for this text's walks alone
set_option linter.unusedVariables false
set_option linter.unusedSimpArgs false

/-! ### slices_Equal_string_string: function 59 -/
def slices_Equal_string_string.l0 : Nat → List ByteArray → List ByteArray → Int → Int → Option (Bool)
  | 0, _, _, _, _ => none
  | k + 1, x0, x1, x12, x13 => if x13 < x12 then (if 0 ≤ x13 then (if x13 < (x0.length : Int) then (if x13 < (x1.length : Int) then (if (rdOf ByteArray.empty x0 x13).toList = (rdOf ByteArray.empty x1 x13).toList then (slices_Equal_string_string.l0 k x0 x1 x12 (wrap64 (x13 + 1))) else (some false)) else (none)) else (none)) else (none)) else (some true)
def slices_Equal_string_string.f (k : Nat) (l0 : List ByteArray) (l1 : List ByteArray) : Option (Bool) := if (l0.length : Int) = (l1.length : Int) then (slices_Equal_string_string.l0 k l0 l1 (l0.length : Int) 0) else (some false)
set_option maxHeartbeats 8000000 in
set_option maxRecDepth 100000 in
theorem slices_Equal_string_string.calls (k : Nat) (A0 : Option Addr) (c0 : Nat) (l0 : List ByteArray) (A1 : Option Addr) (c1 : Nat) (l1 : List ByteArray) (r : Bool) (w : World) (hr0 : Kd.C Kd.string w A0 l0.length l0) (hc0 : l0.length ≤ c0) (hr1 : Kd.C Kd.string w A1 l1.length l1) (hc1 : l1.length ≤ c1) (h : slices_Equal_string_string.f k l0 l1 = some r) :
    Calls Tryd.prog 59 #[.slice A0 l0.length c0, .slice A1 l1.length c1] w fun e w' => e = .returned (.bool r) ∧ Drawn0 w w' := by
  have HR0 := Aside0.mk hr0
  have HC0 := Aside0.mk hc0
  clear hr0 hc0
  have HR1 := Aside0.mk hr1
  have HC1 := Aside0.mk hc1
  clear hr1 hc1
  have H : (if (l0.length : Int) = (l1.length : Int) then (slices_Equal_string_string.l0 k l0 l1 (l0.length : Int) 0) else (some false)) = some r := h
  clear h
  by_cases c3 : (l0.length : Int) = (l1.length : Int)
  · rw [if_pos c3] at H
    have c3b0 : ((l0.length : Int) == (l1.length : Int)) = true := beq_iff_eq.mpr c3
    have c3b1 : ((l0.length : Int) != (l1.length : Int)) = false := bne_eq_false_iff_eq.mpr c3
    have c3b2 : (l0.length == l1.length) = true := by first | simpa using c3 | (simp at c3 ⊢; omega)
    clear c3
    have H' := Aside0.mk H
    clear H
    go_enter Tryd.func59, Tryd.ntmps59
    go_wp2
    repeat (go_quiet (fail); try go_wp2)
    go_loopg [13] k (fun kq v13 w' => ∃ (x13_1 : Int), v13 = .int .i64 x13_1 ∧ Aside0 (slices_Equal_string_string.l0 kq l0 l1 (l0.length : Int) x13_1 = some r) ∧ Aside0 (kq ≤ k) ∧ Drawn0 w w')
    case atStart => exact ⟨(0), (by first | rfl | (simp; done) | (simp [*]; done)), H', ⟨Nat.le_refl _⟩, by repeat (first | exact Drawn0.refl _ | apply Drawn0.step)⟩
    case round =>
      clear H'
      try clear c1
      try clear p2
      try clear c3
      try clear c3b0
      try clear c3b1
      try clear c3b2
      obtain ⟨x13_1, rfl, HA, HK1, ⟨m1, rfl⟩⟩ := hrel
      cases gk with
      | zero => exact absurd HA.out (by simp [slices_Equal_string_string.l0])
      | succ k1 =>
        have H := HA.out
        clear HA
        simp only [slices_Equal_string_string.l0] at H
        by_cases c4 : x13_1 < (l0.length : Int)
        · rw [if_pos c4] at H
          have c4b0 : decide (x13_1 < (l0.length : Int)) = true := decide_eq_true c4
          clear c4
          by_cases c5 : 0 ≤ x13_1
          · rw [if_pos c5] at H
            have c5b0 : decide (0 ≤ x13_1) = true := decide_eq_true c5
            clear c5
            by_cases c6 : x13_1 < (l0.length : Int)
            · rw [if_pos c6] at H
              have c6b0 : decide (x13_1 < (l0.length : Int)) = true := decide_eq_true c6
              clear c6
              by_cases c7 : x13_1 < (l1.length : Int)
              · rw [if_pos c7] at H
                have c7b0 : decide (x13_1 < (l1.length : Int)) = true := decide_eq_true c7
                clear c7
                by_cases c8 : (rdOf ByteArray.empty l0 x13_1).toList = (rdOf ByteArray.empty l1 x13_1).toList
                · rw [if_pos c8] at H
                  have c8b0 : ((rdOf ByteArray.empty l0 x13_1).toList == (rdOf ByteArray.empty l1 x13_1).toList) = true := beq_iff_eq.mpr c8
                  have c8b1 : ((rdOf ByteArray.empty l0 x13_1).toList != (rdOf ByteArray.empty l1 x13_1).toList) = false := bne_eq_false_iff_eq.mpr c8
                  clear c8
                  have H' := Aside0.mk H
                  clear H
                  have p279 : 0 ≤ (x13_1 : Int) := of_decide_eq_true (by first | (with_reducible assumption) | assumption)
                  have q279 : x13_1 < (l0.length : Int) := of_decide_eq_true (by first | (with_reducible assumption) | assumption)
                  obtain ⟨ad279, e279, hx279_0⟩ := Kd.at_string HR0.out x13_1 p279 q279
                  cases e279
                  replace p279 := eq_true p279
                  replace q279 := eq_true q279
                  have p280 : 0 ≤ (x13_1 : Int) := of_decide_eq_true (by first | (with_reducible assumption) | assumption)
                  have q280 : x13_1 < (l1.length : Int) := of_decide_eq_true (by first | (with_reducible assumption) | assumption)
                  obtain ⟨ad280, e280, hx280_0⟩ := Kd.at_string HR1.out x13_1 p280 q280
                  cases e280
                  replace p280 := eq_true p280
                  replace q280 := eq_true q280
                  go_wp2
                  repeat (go_quiet (fail); try go_wp2)
                  go_roundg k1
                  case measure => have := HK1.out; omega
                  case rel => exact ⟨(wrap64 (x13_1 + 1)), (by first | rfl | (simp; done) | (simp [*]; done)), H', ⟨by have := HK1.out; omega⟩, by repeat (first | exact Drawn0.refl _ | apply Drawn0.step)⟩
                · rw [if_neg c8] at H
                  have c8b0 : ((rdOf ByteArray.empty l0 x13_1).toList == (rdOf ByteArray.empty l1 x13_1).toList) = false := beq_eq_false_iff_ne.mpr c8
                  have c8b1 : ((rdOf ByteArray.empty l0 x13_1).toList != (rdOf ByteArray.empty l1 x13_1).toList) = true := bne_iff_ne.mpr c8
                  obtain rfl := Option.some.inj H
                  have p279 : 0 ≤ (x13_1 : Int) := of_decide_eq_true (by first | (with_reducible assumption) | assumption)
                  have q279 : x13_1 < (l0.length : Int) := of_decide_eq_true (by first | (with_reducible assumption) | assumption)
                  obtain ⟨ad279, e279, hx279_0⟩ := Kd.at_string HR0.out x13_1 p279 q279
                  cases e279
                  replace p279 := eq_true p279
                  replace q279 := eq_true q279
                  have p280 : 0 ≤ (x13_1 : Int) := of_decide_eq_true (by first | (with_reducible assumption) | assumption)
                  have q280 : x13_1 < (l1.length : Int) := of_decide_eq_true (by first | (with_reducible assumption) | assumption)
                  obtain ⟨ad280, e280, hx280_0⟩ := Kd.at_string HR1.out x13_1 p280 q280
                  cases e280
                  replace p280 := eq_true p280
                  replace q280 := eq_true q280
                  go_wp2
                  repeat (go_quiet (fail); try go_wp2)
                  go_ret
                  exact ⟨by first | rfl | (simp; done) | (simp [*]; done), by repeat (first | exact Drawn0.refl _ | apply Drawn0.step)⟩
              · rw [if_neg c7] at H
                exact absurd H (by simp)
            · rw [if_neg c6] at H
              exact absurd H (by simp)
          · rw [if_neg c5] at H
            exact absurd H (by simp)
        · rw [if_neg c4] at H
          have c4b0 : decide (x13_1 < (l0.length : Int)) = false := decide_eq_false c4
          clear c4
          obtain rfl := Option.some.inj H
          go_wp2
          repeat (go_quiet (fail); try go_wp2)
          go_ret
          exact ⟨by first | rfl | (simp; done) | (simp [*]; done), by repeat (first | exact Drawn0.refl _ | apply Drawn0.step)⟩
  · rw [if_neg c3] at H
    have c3b0 : ((l0.length : Int) == (l1.length : Int)) = false := beq_eq_false_iff_ne.mpr c3
    have c3b1 : ((l0.length : Int) != (l1.length : Int)) = true := bne_iff_ne.mpr c3
    have c3b2 : (l0.length == l1.length) = false := by first | simpa using c3 | (simp at c3 ⊢; omega)
    obtain rfl := Option.some.inj H
    go_enter Tryd.func59, Tryd.ntmps59
    go_wp2
    repeat (go_quiet (fail); try go_wp2)
    go_ret
    exact ⟨by first | rfl | (simp; done) | (simp [*]; done), by repeat (first | exact Drawn0.refl _ | apply Drawn0.step)⟩

end Go.Proofs.YtgcgkcchoghkaaaDoor.G

/- GKMore -/
/-
  Small words beside the kit's: two lists compared by a test that may lack an answer; a search by halves; several cells stored at once.
-/
namespace Go.Proofs.YtgcgkcchoghkaaaDoor.G
open Go.RowKit Go.Proofs.YtgcgkcchoghkaaaDoorW.PrintWords Go.Proofs.YtgcgkcchoghkaaaDoorW.PrintLast Go.Proofs.YtgcgkcchoghkaaaDoorW.PrintMore
set_option linter.unusedVariables false

/-- Place by place, by a test that may lack an answer; used at one length. -/
def eqFO {α β : Type} (p : α → β → Option Bool) : List α → List β → Option Bool
  | x :: xs, y :: ys => (p x y).bind fun b => if b then eqFO p xs ys else some false
  | _, _ => some true
def eqFO' {α β : Type} (p : α → β → Option Bool) (xs : List α) (ys : List β) : Option Bool := if xs.length = ys.length then eqFO p xs ys else some false
theorem eqFO_step {α β : Type} {p : α → β → Option Bool} {xs : List α} {ys : List β} {k : Nat} {r : Bool} (hk : k < xs.length) (hk' : k < ys.length) (h : eqFO p (xs.drop k) (ys.drop k) = some r) :
    ∃ b, p xs[k] ys[k] = some b ∧ (b = false → r = false) ∧ (b = true → eqFO p (xs.drop (k + 1)) (ys.drop (k + 1)) = some r) := by
  rw [List.drop_eq_getElem_cons hk, List.drop_eq_getElem_cons hk', eqFO] at h
  cases hp : p xs[k] ys[k] with
  | none => rw [hp] at h; cases h
  | some b =>
    rw [hp] at h
    refine ⟨b, rfl, ?_, ?_⟩
    · rintro rfl; simpa using h.symm
    · rintro rfl; simpa using h
theorem eqFO_end {α β : Type} {p : α → β → Option Bool} {xs : List α} {ys : List β} {r : Bool} {k : Nat} (hk : xs.length ≤ k) (h : eqFO p (xs.drop k) (ys.drop k) = some r) : r = true := by
  rw [List.drop_of_length_le hk] at h
  cases ys.drop k <;> simpa [eqFO] using h.symm
end Go.Proofs.YtgcgkcchoghkaaaDoor.G

/- G60 -/
-- Laid by wip/g/gprint.py out of the translation, by the kit's print program. Lean checks it.
namespace Go.Proofs.YtgcgkcchoghkaaaDoor.G
open Go.RowKit Go.Proofs.YtgcgkcchoghkaaaDoorW.PrintWords Go.Proofs.YtgcgkcchoghkaaaDoorW.PrintLast Go.Proofs.YtgcgkcchoghkaaaDoorW.PrintMore
attribute [local go_sem] max2_int min2_int max_two min_two max_three min_three max_four min_four   -- for this text's walks alone
set_option linter.unusedVariables false
set_option linter.unusedSimpArgs false

/-! ### slices_EqualFunc_simpl_Value_simpl_Value_impl_Value_impl_Value: function 60 -/
--IMPORT Derived.Test.YtgcgkcchoghkaaaDoorGKMore
set_option maxRecDepth 100000 in
theorem slices_EqualFunc_simpl_Value_simpl_Value_impl_Value_impl_Value.calls {α : Type} (d : Kd α) (hd : d.sz = 5) (kf : Nat) (hkf : ∀ (zs : Array Value) (W : World), (callFunc kf zs).run Tryd.prog W = .ok (.enter kf zs) W) (caps : Array Value) (p : α → α → Option Bool) (A0 : Option Addr) (c0 : Nat) (l0 : List α) (A1 : Option Addr) (c1 : Nat) (l1 : List α) (r : Bool) (w : World) (hr0 : Kd.C d w A0 l0.length l0) (hc0 : l0.length ≤ c0) (hr1 : Kd.C d w A1 l1.length l1) (hc1 : l1.length ≤ c1)
    (hf : ∀ (x y : α) (cs ds : List Value) (b : Bool) (W : World), p x y = some b → d.K W x cs → d.K W y ds → Below w.heap.size w W → Calls Tryd.prog kf (#[(.agg (cs).toArray), (.agg (ds).toArray)] ++ caps) W fun e w' => e = .returned (.bool b) ∧ Below W.heap.size W w') (h : eqFO' p l0 l1 = some r) :
    Calls Tryd.prog 60 #[.slice A0 l0.length c0, .slice A1 l1.length c1, .func (.func kf) #[] caps] w fun e w' => e = .returned (.bool r) ∧ Below w.heap.size w w' := by
  have hm : l0.length ≤ 9223372036854775807 := hr0.2.1
  by_cases hl : l0.length = l1.length
  · rw [eqFO', if_pos hl] at h
    have HR0 := Lib.hid hr0
    have HR1 := Lib.hid hr1
    have HF := Lib.hid hf
    have HH := Lib.hid h
    have HD := Lib.hid hd
    have HL := Lib.hid hl
    have hsl : Value.slice A1 l1.length c1 = .slice A1 l0.length c1 := by rw [hl]
    rw [hsl]
    clear hr0 hr1 hf h hd hl hc1 hsl
    go_enter Tryd.func60, Tryd.ntmps60
    go_wp2
    go_loopw [7, 8, 9, 17] (fun _ _ _ i wr => ∃ k : Nat, k ≤ l0.length ∧ i = .int .i64 k ∧ Hid (eqFO p (l0.drop k) (l1.drop k) = some r) ∧ Hid (Below w.heap.size w wr)) (fun _ _ _ i _ => l0.length - (intOf i).toNat)
    case atStart => exact ⟨0, by omega, rfl, HH, Below.refl _ _⟩
    case round =>
      obtain ⟨k, hk, rfl, HE, HB⟩ := hrel
      by_cases hlt : k < l0.length
      · obtain ⟨b, hp, hb1, hb2⟩ := eqFO_step hlt (by have := HL.out; omega) HE.out
        have hlt2 : k < l1.length := by have := HL.out; omega
        have HP := Lib.hid hp
        have B1 := Lib.hid hb1
        have B2 := Lib.hid hb2
        clear hp hb1 hb2
        obtain ⟨ad, cs, rfl, hcs, hK, hcell⟩ := Kd.C_get HR0.out l0[k] (k : Int) (by omega) (by omega)
        obtain ⟨ae, ds, rfl, hds, hK2, hcell2⟩ := Kd.C_get HR1.out l1[k] (k : Int) (by omega) (by omega)
        rw [HD.out] at hcs hcell hds hcell2
        obtain ⟨y0, y1, y2, y3, y4, rfl⟩ : ∃ y0 y1 y2 y3 y4, cs = [y0, y1, y2, y3, y4] := by match cs, hcs with | [y0, y1, y2, y3, y4], _ => exact ⟨y0, y1, y2, y3, y4, rfl⟩
        obtain ⟨z0, z1, z2, z3, z4, rfl⟩ : ∃ z0 z1 z2 z3 z4, ds = [z0, z1, z2, z3, z4] := by match ds, hds with | [z0, z1, z2, z3, z4], _ => exact ⟨z0, z1, z2, z3, z4, rfl⟩
        clear hcs hds
        simp only [Int.toNat_natCast, getD_at hlt] at hK hcell
        simp only [Int.toNat_natCast, getD_at hlt2] at hK2 hcell2
        have hone := d.K_one hK
        have hone2 := d.K_one hK2
        have HK := Lib.hid (d.K_below HB.out hK)
        have HK2 := Lib.hid (d.K_below HB.out hK2)
        clear hK hK2
        have d0 := pw_cell_below HB.out (hcell 0 y0 rfl)
        have e0 := pw_cell_below HB.out (hcell2 0 z0 rfl)
        have s0 := fun (a : Addr) (W : World) (q : Mode) => run_store Tryd.prog W a y0 q (hone y0 (by simp))
        have r0 := fun (a : Addr) (W : World) (q : Mode) => run_store Tryd.prog W a z0 q (hone2 z0 (by simp))
        have d1 := pw_cell_below HB.out (hcell 1 y1 rfl)
        have e1 := pw_cell_below HB.out (hcell2 1 z1 rfl)
        have s1 := fun (a : Addr) (W : World) (q : Mode) => run_store Tryd.prog W a y1 q (hone y1 (by simp))
        have r1 := fun (a : Addr) (W : World) (q : Mode) => run_store Tryd.prog W a z1 q (hone2 z1 (by simp))
        have d2 := pw_cell_below HB.out (hcell 2 y2 rfl)
        have e2 := pw_cell_below HB.out (hcell2 2 z2 rfl)
        have s2 := fun (a : Addr) (W : World) (q : Mode) => run_store Tryd.prog W a y2 q (hone y2 (by simp))
        have r2 := fun (a : Addr) (W : World) (q : Mode) => run_store Tryd.prog W a z2 q (hone2 z2 (by simp))
        have d3 := pw_cell_below HB.out (hcell 3 y3 rfl)
        have e3 := pw_cell_below HB.out (hcell2 3 z3 rfl)
        have s3 := fun (a : Addr) (W : World) (q : Mode) => run_store Tryd.prog W a y3 q (hone y3 (by simp))
        have r3 := fun (a : Addr) (W : World) (q : Mode) => run_store Tryd.prog W a z3 q (hone2 z3 (by simp))
        have d4 := pw_cell_below HB.out (hcell 4 y4 rfl)
        have e4 := pw_cell_below HB.out (hcell2 4 z4 rfl)
        have s4 := fun (a : Addr) (W : World) (q : Mode) => run_store Tryd.prog W a y4 q (hone y4 (by simp))
        have r4 := fun (a : Addr) (W : World) (q : Mode) => run_store Tryd.prog W a z4 q (hone2 z4 (by simp))
        clear hcell hcell2 hone hone2
        simp only [Nat.add_zero, Nat.mul_one] at d0 e0
        rw [add_field _ _ 1 (by omega)] at d1 e1
        rw [add_field _ _ 2 (by omega)] at d2 e2
        rw [add_field _ _ 3 (by omega)] at d3 e3
        rw [add_field _ _ 4 (by omega)] at d4 e4
        have f0 := fun (o_ : Obj) => Lib.cell?_alloc_some o_ e0
        have f1 := fun (o_ : Obj) => Lib.cell?_alloc_some o_ e1
        have f2 := fun (o_ : Obj) => Lib.cell?_alloc_some o_ e2
        have f3 := fun (o_ : Obj) => Lib.cell?_alloc_some o_ e3
        have f4 := fun (o_ : Obj) => Lib.cell?_alloc_some o_ e4
        have HW := Lib.hid (below_alloc (below_alloc (Below.refl wr.heap.size wr) (.cells #[y0, y1, y2, y3, y4] 39)) (.cells #[z0, z1, z2, z3, z4] 39))
        have HX := Lib.hid (below_trans HB.out HW.out)
        cases b
        · have B3 := Lib.hid (B1.out rfl)
          clear B1 B2
          go_wp2_with fail
          refine (HF.out l0[k] l1[k] _ _ _ _ HP.out (d.K_below HW.out HK.out) (d.K_below HW.out HK2.out) HX.out).mono ?_
          rintro e w' ⟨rfl, hbx⟩
          have HB2 := hid_below HX hbx
          clear hbx
          go_wp2
          go_ret
          obtain rfl := B3.out
          exact ⟨rfl, HB2.out⟩
        · have B3 := Lib.hid (B2.out rfl)
          clear B1 B2
          go_wp2_with fail
          refine (HF.out l0[k] l1[k] _ _ _ _ HP.out (d.K_below HW.out HK.out) (d.K_below HW.out HK2.out) HX.out).mono ?_
          rintro e w' ⟨rfl, hbx⟩
          have HB2 := hid_below HX hbx
          clear hbx
          go_wp2
          go_roundw
          case rel => exact ⟨k + 1, by omega, by go_num, B3, HB2⟩
          case measure => simp [intOf]; omega
      · obtain rfl : k = l0.length := by omega
        go_wp2
        go_ret
        obtain rfl := eqFO_end (Nat.le_refl _) HE.out
        exact ⟨rfl, HB.out⟩
  · rw [eqFO', if_neg hl] at h
    cases h
    have hne : ¬ ((l0.length : Int) = (l1.length : Int)) := by omega
    clear hr0 hr1 hf
    go_enter Tryd.func60, Tryd.ntmps60
    go_wp2
    go_ret
    exact ⟨rfl, Below.refl _ _⟩

end Go.Proofs.YtgcgkcchoghkaaaDoor.G

/- G48 -/
-- Laid by wip/g/gprint.py out of the translation, by the kit's print program. Lean checks it.
namespace Go.Proofs.YtgcgkcchoghkaaaDoor.G
open Go.RowKit Go.Proofs.YtgcgkcchoghkaaaDoorW.PrintWords Go.Proofs.YtgcgkcchoghkaaaDoorW.PrintLast Go.Proofs.YtgcgkcchoghkaaaDoorW.PrintMore
attribute [local go_sem] max2_int min2_int max_two min_two max_three min_three max_four min_four   -- for this text's walks alone
set_option linter.unusedVariables false
set_option linter.unusedSimpArgs false

/-! ### impl_SameValue: function 48 -/
--IMPORT Derived.Test.YtgcgkcchoghkaaaDoorGKMore
def impl_SameValue.g (k : Nat) (rec_ : S39 → S39 → Option Bool) (a0 : Int) (a1 : ByteArray) (a2 : Int) (a3 : List ByteArray) (a4 : List S39) (b0 : Int) (b1 : ByteArray) (b2 : Int) (b3 : List ByteArray) (b4 : List S39) : Option Bool :=
  if a0 = b0 then (if a1.toList = b1.toList then (if a2 = b2 then ((slices_Equal_string_string.f k a3 b3).bind fun t => if t = true then eqFO' rec_ a4 b4 else some false) else some false) else some false) else some false
def impl_SameValue.f : Nat → Int → ByteArray → Int → List ByteArray → List S39 → Int → ByteArray → Int → List ByteArray → List S39 → Option Bool
  | 0, _, _, _, _, _, _, _, _, _, _ => none
  | k + 1, a0, a1, a2, a3, a4, b0, b1, b2, b3, b4 => impl_SameValue.g k (fun x y => impl_SameValue.f k x.f0 x.f1 x.f2 x.f3 x.f4 y.f0 y.f1 y.f2 y.f3 y.f4) a0 a1 a2 a3 a4 b0 b1 b2 b3 b4
theorem impl_SameValue.calls (k : Nat) : ∀ (a0 : Int) (a1 : ByteArray) (a2 : Int) (A3 : Option Addr) (c3 : Nat) (a3 : List ByteArray) (A4 : Option Addr) (c4 : Nat) (a4 : List S39) (b0 : Int) (b1 : ByteArray) (b2 : Int) (B3 : Option Addr) (e3 : Nat) (b3 : List ByteArray) (B4 : Option Addr) (e4 : Nat) (b4 : List S39) (r : Bool) (w : World)
    (hr3 : Kd.C Kd.string w A3 a3.length a3) (hc3 : a3.length ≤ c3) (hr4 : Kd.C k39 w A4 a4.length a4) (hc4 : a4.length ≤ c4) (hs3 : Kd.C Kd.string w B3 b3.length b3) (he3 : b3.length ≤ e3) (hs4 : Kd.C k39 w B4 b4.length b4) (he4 : b4.length ≤ e4) (h : impl_SameValue.f k a0 a1 a2 a3 a4 b0 b1 b2 b3 b4 = some r),
    Calls Tryd.prog 48 #[.agg #[.int .i64 a0, .string a1, .int .i64 a2, .slice A3 a3.length c3, .slice A4 a4.length c4], .agg #[.int .i64 b0, .string b1, .int .i64 b2, .slice B3 b3.length e3, .slice B4 b4.length e4]] w fun e w' => e = .returned (.bool r) ∧ Below w.heap.size w w' := by
  induction k with
  | zero => intro a0 a1 a2 A3 c3 a3 A4 c4 a4 b0 b1 b2 B3 e3 b3 B4 e4 b4 r w _ _ _ _ _ _ _ _ h; exact absurd h (by simp [impl_SameValue.f])
  | succ k ih =>
  intro a0 a1 a2 A3 c3 a3 A4 c4 a4 b0 b1 b2 B3 e3 b3 B4 e4 b4 r w hr3 hc3 hr4 hc4 hs3 he3 hs4 he4 h
  rw [impl_SameValue.f, impl_SameValue.g] at h
  have HB := Lib.hid (below_alloc (below_alloc (Below.refl w.heap.size w) (.cells #[.int .i64 a0, .string a1, .int .i64 a2, .slice A3 a3.length c3, .slice A4 a4.length c4] 39)) (.cells #[.int .i64 b0, .string b1, .int .i64 b2, .slice B3 b3.length e3, .slice B4 b4.length e4] 39))
  have HR3 := Lib.hid (Kd.C_below hr3 HB.out)
  have HR4 := Lib.hid (Kd.C_below hr4 HB.out)
  have HS3 := Lib.hid (Kd.C_below hs3 HB.out)
  have HS4 := Lib.hid (Kd.C_below hs4 HB.out)
  have IH := Lib.hid ih
  clear hr3 hr4 hs3 hs4 ih
  by_cases c0 : a0 = b0
  · subst c0
    by_cases c1 : a1.toList = b1.toList
    · by_cases c2 : a2 = b2
      · subst c2
        rw [if_pos rfl, if_pos c1, if_pos rfl] at h
        obtain ⟨t, ht, h⟩ := bind_some' h
        have HT := Lib.hid ht
        clear ht
        cases t with
        | false =>
          rw [if_neg Bool.false_ne_true] at h
          cases h
          go_enter Tryd.func48, Tryd.ntmps48
          go_wp2_with fail
          refine (slices_Equal_string_string.calls k A3 c3 a3 B3 e3 b3 false _ HR3.out hc3 HS3.out he3 HT.out).mono ?_
          rintro e w2 ⟨rfl, hb2⟩
          have HB2 := Lib.hid (below_trans HB.out hb2.below)
          clear hb2
          go_wp2
          go_ret
          exact ⟨rfl, HB2.out⟩
        | true =>
          rw [if_pos rfl] at h
          have HH := Lib.hid h
          clear h
          go_enter Tryd.func48, Tryd.ntmps48
          go_wp2_with fail
          refine (slices_Equal_string_string.calls k A3 c3 a3 B3 e3 b3 true _ HR3.out hc3 HS3.out he3 HT.out).mono ?_
          rintro e w2 ⟨rfl, hb2⟩
          obtain ⟨nq, rfl⟩ := hb2
          have HB2 := Lib.hid (pw_below_drewN HB.out nq)
          have HD4 := Lib.hid (Kd.C_drewN HR4.out nq)
          have HE4 := Lib.hid (Kd.C_drewN HS4.out nq)
          go_wp2_with fail
          refine (slices_EqualFunc_simpl_Value_simpl_Value_impl_Value_impl_Value.calls k39 rfl 48 (fun _ _ => by kernel_rfl) #[] _ A4 c4 a4 B4 e4 b4 r _ HD4.out hc4 HE4.out he4 ?_ HH.out).mono ?_
          · intro x y cs ds b W hp hk hk2 hb
            obtain ⟨X3, x3, X4, x4, rfl, l3, q3, l4, q4⟩ := k39_open hk
            obtain ⟨Y3, y3, Y4, y4, rfl, m3, p3, m4, p4⟩ := k39_open hk2
            exact IH.out _ _ _ X3 x3 _ X4 x4 _ _ _ _ Y3 y3 _ Y4 y4 _ b W q3 l3 q4 l4 p3 m3 p4 m4 hp
          · rintro e w3 ⟨rfl, hb3⟩
            have HB3 := Lib.hid (below_trans HB2.out hb3)
            clear hb3
            go_wp2
            go_ret
            exact ⟨rfl, HB3.out⟩
      · rw [if_pos rfl, if_pos c1, if_neg c2] at h
        cases h
        go_enter Tryd.func48, Tryd.ntmps48
        go_wp2
        go_ret
        exact ⟨rfl, HB.out⟩
    · rw [if_pos rfl, if_neg c1] at h
      cases h
      go_enter Tryd.func48, Tryd.ntmps48
      go_wp2
      go_ret
      exact ⟨rfl, HB.out⟩
  · rw [if_neg c0] at h
    cases h
    go_enter Tryd.func48, Tryd.ntmps48
    go_wp2
    go_ret
    exact ⟨rfl, HB.out⟩

end Go.Proofs.YtgcgkcchoghkaaaDoor.G

/- PSame0 -/
/-
  SameValue, the program's: it tells whether two values are one and the same.
-/
namespace Go.Proofs.YtgcgkcchoghkaaaDoor.G
open Go.RowKit Go.Proofs.YtgcgkcchoghkaaaDoorW.PrintWords Go.Proofs.YtgcgkcchoghkaaaDoorW.PrintLast Go.Proofs.YtgcgkcchoghkaaaDoorW.PrintMore
set_option linter.unusedVariables false
set_option linter.unusedSimpArgs false
theorem bytes_eq {a b : ByteArray} : a.toList = b.toList ↔ a = b := by
  constructor
  · intro h
    rw [ByteArray.toList_eq, ByteArray.toList_eq] at h
    obtain ⟨⟨x⟩⟩ := a
    obtain ⟨⟨y⟩⟩ := b
    have h : x = y := h
    rw [h]
  · rintro rfl; rfl
theorem val_eq {a b : IVal} : a = b ↔ a.f0 = b.f0 ∧ a.f1 = b.f1 ∧ a.f2 = b.f2 ∧ a.f3 = b.f3 ∧ a.f4 = b.f4 := by
  obtain ⟨a0, a1, a2, a3, a4⟩ := a
  obtain ⟨b0, b1, b2, b3, b4⟩ := b
  constructor
  · intro h; injection h with h0 h1 h2 h3 h4; exact ⟨h0, h1, h2, h3, h4⟩
  · rintro ⟨h0, h1, h2, h3, h4⟩
    have h0 : a0 = b0 := h0
    have h1 : a1 = b1 := h1
    have h2 : a2 = b2 := h2
    have h3 : a3 = b3 := h3
    have h4 : a4 = b4 := h4
    rw [h0, h1, h2, h3, h4]
open Classical in
/-- Whether two are one, as a Bool. -/
noncomputable def same {α : Type} (a b : α) : Bool := decide (a = b)
theorem same_true {α : Type} {a b : α} : same a b = true ↔ a = b := by unfold same; simp
theorem same_false {α : Type} {a b : α} : same a b = false ↔ a ≠ b := by unfold same; simp
theorem same_self {α : Type} (a : α) : same a a = true := same_true.2 rfl
theorem lists_eq {α : Type} {xs ys : List α} (hl : xs.length = ys.length) (h : ∀ i (h1 : i < xs.length) (h2 : i < ys.length), xs[i] = ys[i]) : xs = ys := List.ext_getElem hl h
theorem strs_all {xs ys : List ByteArray} (hl : xs.length = ys.length) : allN xs.length (fun i => decide ((rdOf ByteArray.empty xs (i : Nat)).toList = (rdOf ByteArray.empty ys (i : Nat)).toList)) = same xs ys := by
  rw [Bool.eq_iff_iff, allN_true, same_true]
  constructor
  · intro h
    refine lists_eq hl (fun i h1 h2 => ?_)
    have := of_decide_eq_true (h i h1)
    rw [rdS h1, rdS h2] at this
    exact bytes_eq.1 this
  · rintro rfl i hi
    exact decide_eq_true rfl
theorem eqStrs_ev (xs ys : List ByteArray) (hm : xs.length ≤ 9223372036854775807) : Ev (fun k => slices_Equal_string_string.f k xs ys) (same xs ys) := by
  unfold slices_Equal_string_string.f
  by_cases hl : xs.length = ys.length
  · refine ev_if_pos (by omega) ?_
    have := loop_all (g := fun k i => slices_Equal_string_string.l0 k xs ys xs.length i) xs.length (fun i => decide ((rdOf ByteArray.empty xs (i : Nat)).toList = (rdOf ByteArray.empty ys (i : Nat)).toList)) true ?_ ?_ ?_
    · rw [Bool.and_true, strs_all hl] at this; exact this
    · intro i hi hok r hr
      refine Ev.step (fun k => by rw [slices_Equal_string_string.l0]) ?_
      simp only [wsucc hi hm]
      exact ev_if_pos (by omega) (ev_if_pos (by omega) (ev_if_pos (by omega) (ev_if_pos (by omega) (ev_if_pos (of_decide_eq_true hok) hr))))
    · intro i hi hok
      exact Ev.step (fun k => by rw [slices_Equal_string_string.l0]) (ev_if_pos (by omega) (ev_if_pos (by omega) (ev_if_pos (by omega) (ev_if_pos (by omega) (ev_if_neg (of_decide_eq_false hok) (Ev.now _))))))
    · exact Ev.step (fun k => by rw [slices_Equal_string_string.l0]) (ev_if_neg (by omega) (Ev.now _))
  · rw [same_false.2 (fun h => hl (by rw [h]))]
    exact ev_if_neg (by omega) (Ev.now _)
theorem eqFO_ev {α : Type} {p : Nat → α → α → Option Bool} : ∀ (xs ys : List α), (∀ x ∈ xs, ∀ y ∈ ys, Ev (fun k => p k x y) (same x y)) → xs.length = ys.length → Ev (fun k => eqFO (p k) xs ys) (same xs ys)
  | [], [], _, _ => by rw [same_self]; exact Ev.now _
  | [], _ :: _, _, h => by simp at h
  | _ :: _, [], _, h => by simp at h
  | x :: xs, y :: ys, h, hl => by
    have h1 := h x (by simp) y (by simp)
    have h2 := eqFO_ev xs ys (fun a ha b hb => h a (by simp [ha]) b (by simp [hb])) (by simpa using hl)
    refine Ev.congr (fun k => by rw [eqFO]) (Ev.bind (f := fun k b => if b = true then eqFO (p k) xs ys else some false) h1 ?_)
    by_cases c : x = y
    · rw [c, same_self]
      refine ev_if_pos rfl (ev_rw h2 ?_)
      rw [Bool.eq_iff_iff, same_true, same_true]; simp
    · rw [same_false.2 c, same_false.2 (fun e => c (by injection e))]
      exact ev_if_neg (by simp) (Ev.now _)
theorem implSame_ev : ∀ (n : Nat) (a b : IVal), SmI n a → Ev (fun k => impl_SameValue.f k a.f0 a.f1 a.f2 a.f3 a.f4 b.f0 b.f1 b.f2 b.f3 b.f4) (same a b)
  | 0, a, b, h => by rw [SmI] at h; exact h.elim
  | n + 1, a, b, h => by
    rw [SmI] at h
    obtain ⟨_, _, hk, hl, hs⟩ := h
    refine Ev.step (fun k => by rw [impl_SameValue.f, impl_SameValue.g]) ?_
    by_cases c0 : a.f0 = b.f0
    · refine ev_if_pos c0 ?_
      by_cases c1 : a.f1.toList = b.f1.toList
      · refine ev_if_pos c1 ?_
        by_cases c2 : a.f2 = b.f2
        · refine ev_if_pos c2 (Ev.bind (eqStrs_ev a.f3 b.f3 (by omega)) ?_)
          by_cases c3 : a.f3 = b.f3
          · rw [c3, same_self]
            refine ev_if_pos rfl ?_
            unfold eqFO'
            by_cases c4 : a.f4.length = b.f4.length
            · refine ev_if_pos c4 (ev_rw (eqFO_ev a.f4 b.f4 (fun x hx y _ => implSame_ev n x y (hs x hx)) c4) ?_)
              rw [Bool.eq_iff_iff, same_true, same_true, val_eq]
              exact ⟨fun h => ⟨c0, bytes_eq.1 c1, c2, c3, h⟩, fun h => h.2.2.2.2⟩
            · rw [same_false.2 (fun e => c4 (by rw [e]))]
              exact ev_if_neg c4 (Ev.now _)
          · rw [same_false.2 c3, same_false.2 (fun e => c3 (by rw [e]))]
            exact ev_if_neg (by simp) (Ev.now _)
        · rw [same_false.2 (fun e => c2 (by rw [e]))]; exact ev_if_neg c2 (Ev.now _)
      · rw [same_false.2 (fun e => c1 (by rw [e]))]; exact ev_if_neg c1 (Ev.now _)
    · rw [same_false.2 (fun e => c0 (by rw [e]))]; exact ev_if_neg c0 (Ev.now _)
end Go.Proofs.YtgcgkcchoghkaaaDoor.G

/- G39 -/
-- Laid by wip/g/gprint.py out of the translation, by the kit's print program. Lean checks it.
namespace Go.Proofs.YtgcgkcchoghkaaaDoor.G
open Go.RowKit Go.Proofs.YtgcgkcchoghkaaaDoorW.PrintWords Go.Proofs.YtgcgkcchoghkaaaDoorW.PrintLast Go.Proofs.YtgcgkcchoghkaaaDoorW.PrintMore
attribute [local go_sem] max2_int min2_int max_two min_two max_three min_three max_four min_four   -- for this text's walks alone
set_option linter.unusedVariables false
set_option linter.unusedSimpArgs false

/-! ### spec_l4Number: function 39 -/
mutual
def spec_l4Number.j0 : Nat → ByteArray → Int → Bool → Option (Int)
  | 0, _, _, _ => none
  | k + 1, x0, x3, x18 => if x18 = true then (some (-1)) else (spec_l4Number.l0 k x0 x3 0)
def spec_l4Number.l0 : Nat → ByteArray → Int → Int → Option (Int)
  | 0, _, _, _ => none
  | k + 1, x0, x3, x4 => if x4 < (x0.size : Int) then (if 0 ≤ x4 then ((spec_l1In.f (wrap64 (bt x0 x4)) 48 57).bind fun t116 => (if t116 = true then (spec_l4Number.l0 k x0 (wrap64 ((wrap64 (x3 * 10)) + (((bt x0 x4) - 48) % 256))) (wrap64 (x4 + 1))) else (some (-1)))) else (none)) else (some x3)
end
def spec_l4Number.f (k : Nat) (a0 : ByteArray) : Option (Int) := (spec_l1In.f (a0.size : Int) 1 9).bind fun t115 => (if t115 = true then (if (a0.size : Int) > 1 then (if 0 < (a0.size : Int) then (spec_l4Number.j0 k a0 0 ((bt a0 0) == 48)) else (none)) else (spec_l4Number.j0 k a0 0 false)) else (spec_l4Number.j0 k a0 0 true))
set_option maxHeartbeats 8000000 in
set_option maxRecDepth 100000 in
theorem spec_l4Number.calls (k : Nat) (a0 : ByteArray) (r : Int) (w : World) (h : spec_l4Number.f k a0 = some r) :
    Calls Tryd.prog 39 #[.string a0] w fun e w' => e = .returned (.int .i64 r) ∧ Drawn0 w w' := by
  have H : ((spec_l1In.f (a0.size : Int) 1 9).bind fun t115 => (if t115 = true then (if (a0.size : Int) > 1 then (if 0 < (a0.size : Int) then (spec_l4Number.j0 k a0 0 ((bt a0 0) == 48)) else (none)) else (spec_l4Number.j0 k a0 0 false)) else (spec_l4Number.j0 k a0 0 true))) = some r := h
  clear h
  have HC2 := Aside0.mk H
  clear H
  go_enter Tryd.func39, Tryd.ntmps39
  go_upto_region 2 with (fail)
  go_cut [18] (fun v18 wc => ∃ (kq : Nat) (x18_1 : Bool), v18 = .bool x18_1 ∧ Aside0 (spec_l4Number.j0 kq a0 0 x18_1 = some r) ∧ Aside0 (kq ≤ k) ∧ Drawn0 w wc)
  case first =>
    have H := HC2.out
    clear HC2
    replace H := Option.bind_eq_some_iff.mp H
    obtain ⟨t115, A30, H⟩ := H
    replace H : (if t115 = true then (if (a0.size : Int) > 1 then (if 0 < (a0.size : Int) then (spec_l4Number.j0 k a0 0 ((bt a0 0) == 48)) else (none)) else (spec_l4Number.j0 k a0 0 false)) else (spec_l4Number.j0 k a0 0 true)) = some r := H
    have A3 := Aside0.mk A30
    clear A30
    by_cases c4 : t115 = true
    · subst c4
      have H1 : (if (a0.size : Int) > 1 then (if 0 < (a0.size : Int) then (spec_l4Number.j0 k a0 0 ((bt a0 0) == 48)) else (none)) else (spec_l4Number.j0 k a0 0 false)) = some r := by rw [if_pos rfl] at H; exact H
      clear H
      have H := H1
      clear H1
      by_cases c5 : (a0.size : Int) > 1
      · rw [if_pos c5] at H
        have c5b0 : decide (1 < (a0.size : Int)) = true := decide_eq_true c5
        have c5b1 : decide (1 < a0.size) = true := decide_eq_true (by omega)
        clear c5
        (first | rw [c5b0] | (simp only [i64_w, i32_w]; rw [c5b0]) | skip)
        by_cases c6 : 0 < (a0.size : Int)
        · rw [if_pos c6] at H
          have c6b0 : decide (0 < (a0.size : Int)) = true := decide_eq_true c6
          have c6b1 : decide (0 < a0.size) = true := decide_eq_true (by omega)
          clear c6
          have H' := Aside0.mk H
          clear H
          go_wp2_with (first | ((with_reducible refine gate_callee (f := 19) rfl ?_); refine goesL_ (some 7) rfl rfl Tryd.func19 (by kernel_rfl) rfl #[.int .i64 (a0.size : Int), .int .i64 1, .int .i64 9] rfl (by (try simp only [List.map_toArray, List.map_cons, List.map_nil]); first | done | rfl | (simp only [List.length_drop, List.length_take]; rfl)) ?_; (with_reducible refine (spec_l1In.calls (a0.size : Int) 1 9 true _ A3.out).mono ?_); rintro e w' ⟨rfl, ⟨nd, rfl⟩⟩; refine ⟨_, rfl, ?_⟩; have p7 : 0 ≤ (0 : Int) := (by omega); have q7 : 0 < a0.size := (by have : (0 : Int) < (a0.size : Int) := of_decide_eq_true (by first | (with_reducible assumption) | assumption); omega); have hx7 : ∀ h : 0 < a0.size, ((a0[0]'h).toNat : Int) = bt a0 0 := bt_at a0 0; clear p7; have qi7 : (0 < (a0.size : Int)) = True := eq_true (of_decide_eq_true (by first | (with_reducible assumption) | assumption)); replace q7 := eq_true q7))
          go_meet
          case rel => exact ⟨_, (((bt a0 0) == 48)), (by first | rfl | (simp; done) | (simp [*]; done)), H', ⟨by first | omega | exact Nat.le_refl _⟩, by repeat (first | exact Drawn0.refl _ | apply Drawn0.step)⟩
        · rw [if_neg c6] at H
          exact absurd H (by simp)
      · rw [if_neg c5] at H
        have c5b0 : decide (1 < (a0.size : Int)) = false := decide_eq_false c5
        have c5b1 : decide (1 < a0.size) = false := decide_eq_false (by omega)
        clear c5
        (first | rw [c5b0] | (simp only [i64_w, i32_w]; rw [c5b0]) | skip)
        have H' := Aside0.mk H
        clear H
        go_wp2_with (first | ((with_reducible refine gate_callee (f := 19) rfl ?_); refine goesL_ (some 7) rfl rfl Tryd.func19 (by kernel_rfl) rfl #[.int .i64 (a0.size : Int), .int .i64 1, .int .i64 9] rfl (by (try simp only [List.map_toArray, List.map_cons, List.map_nil]); first | done | rfl | (simp only [List.length_drop, List.length_take]; rfl)) ?_; (with_reducible refine (spec_l1In.calls (a0.size : Int) 1 9 true _ A3.out).mono ?_); rintro e w' ⟨rfl, ⟨nd, rfl⟩⟩; refine ⟨_, rfl, ?_⟩))
        go_meet
        case rel => exact ⟨_, (false), (by first | rfl | (simp; done) | (simp [*]; done)), H', ⟨by first | omega | exact Nat.le_refl _⟩, by repeat (first | exact Drawn0.refl _ | apply Drawn0.step)⟩
    · replace c4 := Bool.eq_false_iff.mpr c4
      subst c4
      have H1 : (spec_l4Number.j0 k a0 0 true) = some r := by rw [if_neg (show ¬ (false = true) by decide)] at H; exact H
      clear H
      have H := H1
      clear H1
      have H' := Aside0.mk H
      clear H
      go_wp2_with (first | ((with_reducible refine gate_callee (f := 19) rfl ?_); refine goesL_ (some 7) rfl rfl Tryd.func19 (by kernel_rfl) rfl #[.int .i64 (a0.size : Int), .int .i64 1, .int .i64 9] rfl (by (try simp only [List.map_toArray, List.map_cons, List.map_nil]); first | done | rfl | (simp only [List.length_drop, List.length_take]; rfl)) ?_; (with_reducible refine (spec_l1In.calls (a0.size : Int) 1 9 false _ A3.out).mono ?_); rintro e w' ⟨rfl, ⟨nd, rfl⟩⟩; refine ⟨_, rfl, ?_⟩))
      go_meet
      case rel => exact ⟨_, (true), (by first | rfl | (simp; done) | (simp [*]; done)), H', ⟨by first | omega | exact Nat.le_refl _⟩, by repeat (first | exact Drawn0.refl _ | apply Drawn0.step)⟩
  case rest =>
    clear HC2
    try clear c1
    try clear p2
    try clear c3
    try clear c4
    try clear c5
    try clear c5b0
    try clear c5b1
    try clear c6
    try clear c6b0
    try clear c6b1
    try clear p7
    try clear q7
    try clear hx7
    try clear qi7
    try clear p7
    try clear q7
    obtain ⟨kq, x18_1, rfl, HA, HJ1, ⟨mc1, rfl⟩⟩ := hcut
    cases kq with
    | zero => exact absurd HA.out (by simp [spec_l4Number.j0])
    | succ kj1 =>
      have H := HA.out
      clear HA
      simp only [spec_l4Number.j0] at H
      by_cases c8 : x18_1 = true
      · subst c8
        have H1 : (some (-1)) = some r := by rw [if_pos rfl] at H; exact H
        clear H
        have H := H1
        clear H1
        obtain rfl := Option.some.inj H
        go_wp2
        go_ret
        exact ⟨by first | rfl | (simp; done) | (simp [*]; done), by repeat (first | exact Drawn0.refl _ | apply Drawn0.step)⟩
      · replace c8 := Bool.eq_false_iff.mpr c8
        subst c8
        have H1 : (spec_l4Number.l0 kj1 a0 0 0) = some r := by rw [if_neg (show ¬ (false = true) by decide)] at H; exact H
        clear H
        have H := H1
        clear H1
        have H' := Aside0.mk H
        clear H
        go_wp2
        go_loopg [3, 4] kj1 (fun kq v3 v4 w' => ∃ (x3_2 : Int) (x4_2 : Int), v3 = .int .i64 x3_2 ∧ v4 = .int .i64 x4_2 ∧ Aside0 (spec_l4Number.l0 kq a0 x3_2 x4_2 = some r) ∧ Aside0 (kq ≤ kj1) ∧ Drawn0 w w')
        case atStart => exact ⟨(0), (0), (by first | rfl | (simp; done) | (simp [*]; done)), (by first | rfl | (simp; done) | (simp [*]; done)), H', ⟨Nat.le_refl _⟩, by repeat (first | exact Drawn0.refl _ | apply Drawn0.step)⟩
        case round =>
          clear H'
          try clear c1
          try clear p2
          try clear c3
          try clear c4
          try clear c5
          try clear c5b0
          try clear c5b1
          try clear c6
          try clear c6b0
          try clear c6b1
          try clear p7
          try clear q7
          try clear hx7
          try clear qi7
          try clear c8
          try clear p2
          try clear p7
          try clear q7
          obtain ⟨x3_2, x4_2, rfl, rfl, HA, HK2, ⟨m2, rfl⟩⟩ := hrel
          cases gk with
          | zero => exact absurd HA.out (by simp [spec_l4Number.l0])
          | succ k2 =>
            have H := HA.out
            clear HA
            simp only [spec_l4Number.l0] at H
            by_cases c9 : x4_2 < (a0.size : Int)
            · rw [if_pos c9] at H
              have c9b0 : decide (x4_2 < (a0.size : Int)) = true := decide_eq_true c9
              clear c9
              by_cases c10 : 0 ≤ x4_2
              · rw [if_pos c10] at H
                have c10b0 : decide (0 ≤ x4_2) = true := decide_eq_true c10
                clear c10
                replace H := Option.bind_eq_some_iff.mp H
                obtain ⟨t116, A120, H⟩ := H
                replace H : (if t116 = true then (spec_l4Number.l0 k2 a0 (wrap64 ((wrap64 (x3_2 * 10)) + (((bt a0 x4_2) - 48) % 256))) (wrap64 (x4_2 + 1))) else (some (-1))) = some r := H
                have A12 := Aside0.mk A120
                clear A120
                by_cases c13 : t116 = true
                · subst c13
                  have H1 : (spec_l4Number.l0 k2 a0 (wrap64 ((wrap64 (x3_2 * 10)) + (((bt a0 x4_2) - 48) % 256))) (wrap64 (x4_2 + 1))) = some r := by rw [if_pos rfl] at H; exact H
                  clear H
                  have H := H1
                  clear H1
                  have H' := Aside0.mk H
                  clear H
                  have p11 : 0 ≤ (x4_2 : Int) := of_decide_eq_true (by first | (with_reducible assumption) | assumption)
                  have q11 : x4_2 < (a0.size : Int) := of_decide_eq_true (by first | (with_reducible assumption) | assumption)
                  have hx11 := bt_at a0 x4_2
                  replace p11 := eq_true p11
                  replace q11 := eq_true q11
                  go_wp2_with (first | ((with_reducible refine gate_callee (f := 19) rfl ?_); refine goesL_ (some 29) rfl rfl Tryd.func19 (by kernel_rfl) rfl #[.int .i64 (wrap64 (bt a0 x4_2)), .int .i64 48, .int .i64 57] rfl (by (try simp only [List.map_toArray, List.map_cons, List.map_nil]); first | done | rfl | (simp only [List.length_drop, List.length_take]; rfl)) ?_; (with_reducible refine (spec_l1In.calls (wrap64 (bt a0 x4_2)) 48 57 true _ A12.out).mono ?_); rintro e w' ⟨rfl, ⟨nd, rfl⟩⟩; refine ⟨_, rfl, ?_⟩; have p14 : 0 ≤ (x4_2 : Int) := of_decide_eq_true (by first | (with_reducible assumption) | assumption); have q14 : x4_2 < (a0.size : Int) := of_decide_eq_true (by first | (with_reducible assumption) | assumption); have hx14 := bt_at a0 x4_2; replace p14 := eq_true p14; replace q14 := eq_true q14))
                  go_roundg k2
                  case measure => have := HJ1.out; have := HK2.out; omega
                  case rel => exact ⟨(wrap64 ((wrap64 (x3_2 * 10)) + (((bt a0 x4_2) - 48) % 256))), (wrap64 (x4_2 + 1)), (by first | rfl | (simp; done) | (simp [*]; done)), (by first | rfl | (simp; done) | (simp [*]; done)), H', ⟨by have := HJ1.out; have := HK2.out; omega⟩, by repeat (first | exact Drawn0.refl _ | apply Drawn0.step)⟩
                · replace c13 := Bool.eq_false_iff.mpr c13
                  subst c13
                  have H1 : (some (-1)) = some r := by rw [if_neg (show ¬ (false = true) by decide)] at H; exact H
                  clear H
                  have H := H1
                  clear H1
                  obtain rfl := Option.some.inj H
                  have p11 : 0 ≤ (x4_2 : Int) := of_decide_eq_true (by first | (with_reducible assumption) | assumption)
                  have q11 : x4_2 < (a0.size : Int) := of_decide_eq_true (by first | (with_reducible assumption) | assumption)
                  have hx11 := bt_at a0 x4_2
                  replace p11 := eq_true p11
                  replace q11 := eq_true q11
                  go_wp2_with (first | ((with_reducible refine gate_callee (f := 19) rfl ?_); refine goesL_ (some 29) rfl rfl Tryd.func19 (by kernel_rfl) rfl #[.int .i64 (wrap64 (bt a0 x4_2)), .int .i64 48, .int .i64 57] rfl (by (try simp only [List.map_toArray, List.map_cons, List.map_nil]); first | done | rfl | (simp only [List.length_drop, List.length_take]; rfl)) ?_; (with_reducible refine (spec_l1In.calls (wrap64 (bt a0 x4_2)) 48 57 false _ A12.out).mono ?_); rintro e w' ⟨rfl, ⟨nd, rfl⟩⟩; refine ⟨_, rfl, ?_⟩))
                  go_ret
                  exact ⟨by first | rfl | (simp; done) | (simp [*]; done), by repeat (first | exact Drawn0.refl _ | apply Drawn0.step)⟩
              · rw [if_neg c10] at H
                exact absurd H (by simp)
            · rw [if_neg c9] at H
              have c9b0 : decide (x4_2 < (a0.size : Int)) = false := decide_eq_false c9
              clear c9
              obtain rfl := Option.some.inj H
              go_wp2
              go_ret
              exact ⟨by first | rfl | (simp; done) | (simp [*]; done), by repeat (first | exact Drawn0.refl _ | apply Drawn0.step)⟩

end Go.Proofs.YtgcgkcchoghkaaaDoor.G

/- G65 -/
-- Laid by wip/g/gprint.py out of the translation, by the kit's print program. Lean checks it.
namespace Go.Proofs.YtgcgkcchoghkaaaDoor.G
open Go.RowKit Go.Proofs.YtgcgkcchoghkaaaDoorW.PrintWords Go.Proofs.YtgcgkcchoghkaaaDoorW.PrintLast Go.Proofs.YtgcgkcchoghkaaaDoorW.PrintMore
attribute [local go_sem] max2_int min2_int max_two min_two max_three min_three max_four min_four   -- for this text's walks alone
set_option linter.unusedVariables false
set_option linter.unusedSimpArgs false

/-! ### impl_digits: function 65 -/
mutual
def impl_digits.j0 : Nat → ByteArray → Bool → Option (Int × Bool)
  | 0, _, _ => none
  | k + 1, x0, x25 => if x25 = true then (some (0, false)) else (impl_digits.l0 k x0 0 (x0.size : Int) 0)
def impl_digits.l0 : Nat → ByteArray → Int → Int → Int → Option (Int × Bool)
  | 0, _, _, _, _ => none
  | k + 1, x0, x6, x27, x28 => if x28 < x27 then (if 0 ≤ x28 then (if x28 < (x0.size : Int) then (if (bt x0 x28) < 48 then (some (0, false)) else (if (bt x0 x28) > 57 then (some (0, false)) else (impl_digits.l0 k x0 (wrap64 ((wrap64 (10 * x6)) + (((bt x0 x28) - 48) % 256))) x27 (wrap64 (x28 + 1))))) else (none)) else (none)) else (some (x6, true))
end
def impl_digits.f (k : Nat) (a0 : ByteArray) (a1 : Int) : Option (Int × Bool) := if a0.toList = ([] : List UInt8) then (impl_digits.j0 k a0 true) else (if (a0.size : Int) > a1 then (impl_digits.j0 k a0 true) else (if 0 < (a0.size : Int) then (if (bt a0 0) = 48 then (impl_digits.j0 k a0 (decide ((a0.size : Int) > 1))) else (impl_digits.j0 k a0 false)) else (none)))
set_option maxHeartbeats 8000000 in
set_option maxRecDepth 100000 in
theorem impl_digits.calls (k : Nat) (a0 : ByteArray) (a1 : Int) (r1 : Int) (r2 : Bool) (w : World) (h : impl_digits.f k a0 a1 = some (r1, r2)) :
    Calls Tryd.prog 65 #[.string a0, .int .i64 a1] w fun e w' => e = .returned (.tuple #[.int .i64 r1, .bool r2]) ∧ Drawn0 w w' := by
  have H : (if a0.toList = ([] : List UInt8) then (impl_digits.j0 k a0 true) else (if (a0.size : Int) > a1 then (impl_digits.j0 k a0 true) else (if 0 < (a0.size : Int) then (if (bt a0 0) = 48 then (impl_digits.j0 k a0 (decide ((a0.size : Int) > 1))) else (impl_digits.j0 k a0 false)) else (none)))) = some (r1, r2) := h
  clear h
  have HC3 := Aside0.mk H
  clear H
  go_enter Tryd.func65, Tryd.ntmps65
  go_upto_region 1 with (fail)
  go_cut [25] (fun v25 wc => ∃ (kq : Nat) (x25_2 : Bool), v25 = .bool x25_2 ∧ Aside0 (impl_digits.j0 kq a0 x25_2 = some (r1, r2)) ∧ Aside0 (kq ≤ k) ∧ Drawn0 w wc)
  case first =>
    have H := HC3.out
    clear HC3
    by_cases c4 : a0.toList = ([] : List UInt8)
    · rw [if_pos c4] at H
      have c4b0 : (a0.toList == ([] : List UInt8)) = true := beq_iff_eq.mpr c4
      have c4b1 : (a0.toList != ([] : List UInt8)) = false := bne_eq_false_iff_eq.mpr c4
      clear c4
      (first | rw [c4b0] | (simp only [i64_w, i32_w]; rw [c4b0]) | skip)
      have H' := Aside0.mk H
      clear H
      go_wp2
      go_meet
      case rel => exact ⟨_, (true), (by first | rfl | (simp; done) | (simp [*]; done)), H', ⟨by first | omega | exact Nat.le_refl _⟩, by repeat (first | exact Drawn0.refl _ | apply Drawn0.step)⟩
    · rw [if_neg c4] at H
      have c4b0 : (a0.toList == ([] : List UInt8)) = false := beq_eq_false_iff_ne.mpr c4
      have c4b1 : (a0.toList != ([] : List UInt8)) = true := bne_iff_ne.mpr c4
      (first | rw [c4b0] | (simp only [i64_w, i32_w]; rw [c4b0]) | skip)
      by_cases c5 : (a0.size : Int) > a1
      · rw [if_pos c5] at H
        have c5b0 : decide (a1 < (a0.size : Int)) = true := decide_eq_true c5
        clear c5
        have H' := Aside0.mk H
        clear H
        go_wp2
        go_meet
        case rel => exact ⟨_, (true), (by first | rfl | (simp; done) | (simp [*]; done)), H', ⟨by first | omega | exact Nat.le_refl _⟩, by repeat (first | exact Drawn0.refl _ | apply Drawn0.step)⟩
      · rw [if_neg c5] at H
        have c5b0 : decide (a1 < (a0.size : Int)) = false := decide_eq_false c5
        clear c5
        by_cases c6 : 0 < (a0.size : Int)
        · rw [if_pos c6] at H
          have c6b0 : decide (0 < (a0.size : Int)) = true := decide_eq_true c6
          have c6b1 : decide (0 < a0.size) = true := decide_eq_true (by omega)
          clear c6
          by_cases c8 : (bt a0 0) = 48
          · rw [if_pos c8] at H
            have c8b0 : ((bt a0 0) == 48) = true := beq_iff_eq.mpr c8
            have c8b1 : ((bt a0 0) != 48) = false := bne_eq_false_iff_eq.mpr c8
            clear c8
            have H' := Aside0.mk H
            clear H
            have p7 : 0 ≤ (0 : Int) := (by omega)
            have q7 : 0 < a0.size := (by have : (0 : Int) < (a0.size : Int) := of_decide_eq_true (by first | (with_reducible assumption) | assumption); omega)
            have hx7 : ∀ h : 0 < a0.size, ((a0[0]'h).toNat : Int) = bt a0 0 := bt_at a0 0
            clear p7
            have qi7 : (0 < (a0.size : Int)) = True := eq_true (of_decide_eq_true (by first | (with_reducible assumption) | assumption))
            replace q7 := eq_true q7
            go_wp2
            go_meet
            case rel => exact ⟨_, (decide ((a0.size : Int) > 1)), (by first | rfl | (simp; done) | (simp [*]; done)), H', ⟨by first | omega | exact Nat.le_refl _⟩, by repeat (first | exact Drawn0.refl _ | apply Drawn0.step)⟩
          · rw [if_neg c8] at H
            have c8b0 : ((bt a0 0) == 48) = false := beq_eq_false_iff_ne.mpr c8
            have c8b1 : ((bt a0 0) != 48) = true := bne_iff_ne.mpr c8
            have H' := Aside0.mk H
            clear H
            have p7 : 0 ≤ (0 : Int) := (by omega)
            have q7 : 0 < a0.size := (by have : (0 : Int) < (a0.size : Int) := of_decide_eq_true (by first | (with_reducible assumption) | assumption); omega)
            have hx7 : ∀ h : 0 < a0.size, ((a0[0]'h).toNat : Int) = bt a0 0 := bt_at a0 0
            clear p7
            have qi7 : (0 < (a0.size : Int)) = True := eq_true (of_decide_eq_true (by first | (with_reducible assumption) | assumption))
            replace q7 := eq_true q7
            go_wp2
            go_meet
            case rel => exact ⟨_, (false), (by first | rfl | (simp; done) | (simp [*]; done)), H', ⟨by first | omega | exact Nat.le_refl _⟩, by repeat (first | exact Drawn0.refl _ | apply Drawn0.step)⟩
        · rw [if_neg c6] at H
          exact absurd H (by simp)
  case rest =>
    clear HC3
    try clear p2
    try clear c4
    try clear c4b0
    try clear c4b1
    try clear c5
    try clear c5b0
    try clear c6
    try clear c6b0
    try clear c6b1
    try clear p7
    try clear q7
    try clear hx7
    try clear qi7
    try clear c8
    try clear c8b0
    try clear c8b1
    try clear p7
    try clear q7
    obtain ⟨kq, x25_2, rfl, HA, HJ2, ⟨mc2, rfl⟩⟩ := hcut
    cases kq with
    | zero => exact absurd HA.out (by simp [impl_digits.j0])
    | succ kj2 =>
      have H := HA.out
      clear HA
      simp only [impl_digits.j0] at H
      by_cases c9 : x25_2 = true
      · subst c9
        have H1 : (some (0, false)) = some (r1, r2) := by rw [if_pos rfl] at H; exact H
        clear H
        have H := H1
        clear H1
        simp only [Option.some.injEq, Prod.mk.injEq] at H
        obtain ⟨rfl, rfl⟩ := H
        go_wp2
        go_ret2
        exact ⟨by first | rfl | (simp; done) | (simp [*]; done), by repeat (first | exact Drawn0.refl _ | apply Drawn0.step)⟩
      · replace c9 := Bool.eq_false_iff.mpr c9
        subst c9
        have H1 : (impl_digits.l0 kj2 a0 0 (a0.size : Int) 0) = some (r1, r2) := by rw [if_neg (show ¬ (false = true) by decide)] at H; exact H
        clear H
        have H := H1
        clear H1
        have H' := Aside0.mk H
        clear H
        go_wp2
        go_loopg [6, 28] kj2 (fun kq v6 v28 w' => ∃ (x6_2 : Int) (x28_2 : Int), v6 = .int .i64 x6_2 ∧ v28 = .int .i64 x28_2 ∧ Aside0 (impl_digits.l0 kq a0 x6_2 (a0.size : Int) x28_2 = some (r1, r2)) ∧ Aside0 (kq ≤ kj2) ∧ Drawn0 w w')
        case atStart => exact ⟨(0), (0), (by first | rfl | (simp; done) | (simp [*]; done)), (by first | rfl | (simp; done) | (simp [*]; done)), H', ⟨Nat.le_refl _⟩, by repeat (first | exact Drawn0.refl _ | apply Drawn0.step)⟩
        case round =>
          clear H'
          try clear c2
          try clear p2
          try clear c4
          try clear c4b0
          try clear c4b1
          try clear c5
          try clear c5b0
          try clear c6
          try clear c6b0
          try clear c6b1
          try clear p7
          try clear q7
          try clear hx7
          try clear qi7
          try clear c8
          try clear c8b0
          try clear c8b1
          try clear c9
          try clear p2
          try clear p7
          try clear q7
          obtain ⟨x6_2, x28_2, rfl, rfl, HA, HK2, ⟨m2, rfl⟩⟩ := hrel
          cases gk with
          | zero => exact absurd HA.out (by simp [impl_digits.l0])
          | succ k2 =>
            have H := HA.out
            clear HA
            simp only [impl_digits.l0] at H
            by_cases c10 : x28_2 < (a0.size : Int)
            · rw [if_pos c10] at H
              have c10b0 : decide (x28_2 < (a0.size : Int)) = true := decide_eq_true c10
              clear c10
              by_cases c11 : 0 ≤ x28_2
              · rw [if_pos c11] at H
                have c11b0 : decide (0 ≤ x28_2) = true := decide_eq_true c11
                clear c11
                by_cases c12 : x28_2 < (a0.size : Int)
                · rw [if_pos c12] at H
                  have c12b0 : decide (x28_2 < (a0.size : Int)) = true := decide_eq_true c12
                  clear c12
                  by_cases c14 : (bt a0 x28_2) < 48
                  · rw [if_pos c14] at H
                    have c14b0 : decide ((bt a0 x28_2) < 48) = true := decide_eq_true c14
                    clear c14
                    simp only [Option.some.injEq, Prod.mk.injEq] at H
                    obtain ⟨rfl, rfl⟩ := H
                    have p13 : 0 ≤ (x28_2 : Int) := of_decide_eq_true (by first | (with_reducible assumption) | assumption)
                    have q13 : x28_2 < (a0.size : Int) := of_decide_eq_true (by first | (with_reducible assumption) | assumption)
                    have hx13 := bt_at a0 x28_2
                    replace p13 := eq_true p13
                    replace q13 := eq_true q13
                    go_wp2
                    go_ret2
                    exact ⟨by first | rfl | (simp; done) | (simp [*]; done), by repeat (first | exact Drawn0.refl _ | apply Drawn0.step)⟩
                  · rw [if_neg c14] at H
                    have c14b0 : decide ((bt a0 x28_2) < 48) = false := decide_eq_false c14
                    clear c14
                    by_cases c16 : (bt a0 x28_2) > 57
                    · rw [if_pos c16] at H
                      have c16b0 : decide (57 < (bt a0 x28_2)) = true := decide_eq_true c16
                      clear c16
                      simp only [Option.some.injEq, Prod.mk.injEq] at H
                      obtain ⟨rfl, rfl⟩ := H
                      have p13 : 0 ≤ (x28_2 : Int) := of_decide_eq_true (by first | (with_reducible assumption) | assumption)
                      have q13 : x28_2 < (a0.size : Int) := of_decide_eq_true (by first | (with_reducible assumption) | assumption)
                      have hx13 := bt_at a0 x28_2
                      replace p13 := eq_true p13
                      replace q13 := eq_true q13
                      have p15 : 0 ≤ (x28_2 : Int) := of_decide_eq_true (by first | (with_reducible assumption) | assumption)
                      have q15 : x28_2 < (a0.size : Int) := of_decide_eq_true (by first | (with_reducible assumption) | assumption)
                      have hx15 := bt_at a0 x28_2
                      replace p15 := eq_true p15
                      replace q15 := eq_true q15
                      go_wp2
                      go_ret2
                      exact ⟨by first | rfl | (simp; done) | (simp [*]; done), by repeat (first | exact Drawn0.refl _ | apply Drawn0.step)⟩
                    · rw [if_neg c16] at H
                      have c16b0 : decide (57 < (bt a0 x28_2)) = false := decide_eq_false c16
                      clear c16
                      have H' := Aside0.mk H
                      clear H
                      have p13 : 0 ≤ (x28_2 : Int) := of_decide_eq_true (by first | (with_reducible assumption) | assumption)
                      have q13 : x28_2 < (a0.size : Int) := of_decide_eq_true (by first | (with_reducible assumption) | assumption)
                      have hx13 := bt_at a0 x28_2
                      replace p13 := eq_true p13
                      replace q13 := eq_true q13
                      have p15 : 0 ≤ (x28_2 : Int) := of_decide_eq_true (by first | (with_reducible assumption) | assumption)
                      have q15 : x28_2 < (a0.size : Int) := of_decide_eq_true (by first | (with_reducible assumption) | assumption)
                      have hx15 := bt_at a0 x28_2
                      replace p15 := eq_true p15
                      replace q15 := eq_true q15
                      have p17 : 0 ≤ (x28_2 : Int) := of_decide_eq_true (by first | (with_reducible assumption) | assumption)
                      have q17 : x28_2 < (a0.size : Int) := of_decide_eq_true (by first | (with_reducible assumption) | assumption)
                      have hx17 := bt_at a0 x28_2
                      replace p17 := eq_true p17
                      replace q17 := eq_true q17
                      go_wp2
                      go_roundg k2
                      case measure => have := HJ2.out; have := HK2.out; omega
                      case rel => exact ⟨(wrap64 ((wrap64 (10 * x6_2)) + (((bt a0 x28_2) - 48) % 256))), (wrap64 (x28_2 + 1)), (by first | rfl | (simp; done) | (simp [*]; done)), (by first | rfl | (simp; done) | (simp [*]; done)), H', ⟨by have := HJ2.out; have := HK2.out; omega⟩, by repeat (first | exact Drawn0.refl _ | apply Drawn0.step)⟩
                · rw [if_neg c12] at H
                  exact absurd H (by simp)
              · rw [if_neg c11] at H
                exact absurd H (by simp)
            · rw [if_neg c10] at H
              have c10b0 : decide (x28_2 < (a0.size : Int)) = false := decide_eq_false c10
              clear c10
              simp only [Option.some.injEq, Prod.mk.injEq] at H
              obtain ⟨rfl, rfl⟩ := H
              go_wp2
              go_ret2
              exact ⟨by first | rfl | (simp; done) | (simp [*]; done), by repeat (first | exact Drawn0.refl _ | apply Drawn0.step)⟩

end Go.Proofs.YtgcgkcchoghkaaaDoor.G

/- G58 -/
-- Laid by wip/g/gprint.py out of the translation, by the kit's print program. Lean checks it.
namespace Go.Proofs.YtgcgkcchoghkaaaDoor.G
open Go.RowKit Go.Proofs.YtgcgkcchoghkaaaDoorW.PrintWords Go.Proofs.YtgcgkcchoghkaaaDoorW.PrintLast Go.Proofs.YtgcgkcchoghkaaaDoorW.PrintMore
attribute [local go_sem] max2_int min2_int max_two min_two max_three min_three max_four min_four   -- for this text's walks alone
set_option linter.unusedVariables false
set_option linter.unusedSimpArgs false

/-! ### impl_number: function 58 -/
def impl_number.f (k : Nat) (a0 : ByteArray) : Option (Int × Bool) := (impl_digits.f k a0 9).bind fun bt273 => (some (bt273.1, bt273.2))
set_option maxHeartbeats 8000000 in
set_option maxRecDepth 100000 in
theorem impl_number.calls (k : Nat) (a0 : ByteArray) (r1 : Int) (r2 : Bool) (w : World) (h : impl_number.f k a0 = some (r1, r2)) :
    Calls Tryd.prog 58 #[.string a0] w fun e w' => e = .returned (.tuple #[.int .i64 r1, .bool r2]) ∧ Drawn0 w w' := by
  have H : ((impl_digits.f k a0 9).bind fun bt273 => (some (bt273.1, bt273.2))) = some (r1, r2) := h
  clear h
  replace H := Option.bind_eq_some_iff.mp H
  obtain ⟨⟨t273, t274⟩, A20, H⟩ := H
  replace H : (some (t273, t274)) = some (r1, r2) := H
  have A2 := Aside0.mk A20
  clear A20
  simp only [Option.some.injEq, Prod.mk.injEq] at H
  obtain ⟨rfl, rfl⟩ := H
  go_enter Tryd.func58, Tryd.ntmps58
  go_wp2_with (first | ((with_reducible refine gate_callee (f := 65) rfl ?_); refine goesL_ (some 5) rfl rfl Tryd.func65 (by kernel_rfl) rfl #[.string a0, .int .i64 9] rfl (by (try simp only [List.map_toArray, List.map_cons, List.map_nil]); first | done | rfl | (simp only [List.length_drop, List.length_take]; rfl)) ?_; (with_reducible refine (impl_digits.calls k a0 9 t273 t274 _ A2.out).mono ?_); rintro e w' ⟨rfl, ⟨nd, rfl⟩⟩; refine ⟨_, rfl, ?_⟩))
  go_ret2
  exact ⟨by first | rfl | (simp; done) | (simp [*]; done), by repeat (first | exact Drawn0.refl _ | apply Drawn0.step)⟩

end Go.Proofs.YtgcgkcchoghkaaaDoor.G

/- G47 -/
-- Laid by wip/g/gprint.py out of the translation, by the kit's print program. Lean checks it.
namespace Go.Proofs.YtgcgkcchoghkaaaDoor.G
open Go.RowKit Go.Proofs.YtgcgkcchoghkaaaDoorW.PrintWords Go.Proofs.YtgcgkcchoghkaaaDoorW.PrintLast Go.Proofs.YtgcgkcchoghkaaaDoorW.PrintMore
attribute [local go_sem] max2_int min2_int max_two min_two max_three min_three max_four min_four   -- for this text's walks alone
set_option linter.unusedVariables false
set_option linter.unusedSimpArgs false

/-! ### impl_isNumber: function 47 -/
def impl_isNumber.f (k : Nat) (a0 : ByteArray) : Option (Bool) := (impl_number.f k a0).bind fun bt275 => (some bt275.2)
set_option maxHeartbeats 8000000 in
set_option maxRecDepth 100000 in
theorem impl_isNumber.calls (k : Nat) (a0 : ByteArray) (r : Bool) (w : World) (h : impl_isNumber.f k a0 = some r) :
    Calls Tryd.prog 47 #[.string a0] w fun e w' => e = .returned (.bool r) ∧ Drawn0 w w' := by
  have H : ((impl_number.f k a0).bind fun bt275 => (some bt275.2)) = some r := h
  clear h
  replace H := Option.bind_eq_some_iff.mp H
  obtain ⟨⟨t275, t276⟩, A20, H⟩ := H
  replace H : (some t276) = some r := H
  have A2 := Aside0.mk A20
  clear A20
  obtain rfl := Option.some.inj H
  go_enter Tryd.func47, Tryd.ntmps47
  go_wp2_with (first | ((with_reducible refine gate_callee (f := 58) rfl ?_); refine goesL_ (some 7) rfl rfl Tryd.func58 (by kernel_rfl) rfl #[.string a0] rfl (by (try simp only [List.map_toArray, List.map_cons, List.map_nil]); first | done | rfl | (simp only [List.length_drop, List.length_take]; rfl)) ?_; (with_reducible refine (impl_number.calls k a0 t275 t276 _ A2.out).mono ?_); rintro e w' ⟨rfl, ⟨nd, rfl⟩⟩; refine ⟨_, rfl, ?_⟩))
  go_ret
  exact ⟨by first | rfl | (simp; done) | (simp [*]; done), by repeat (first | exact Drawn0.refl _ | apply Drawn0.step)⟩

end Go.Proofs.YtgcgkcchoghkaaaDoor.G

/- PNum -/
/-
  Numbers in decimal digits: the reference's l4Number, the program's number.
-/
namespace Go.Proofs.YtgcgkcchoghkaaaDoor.G
open Go.RowKit Go.Proofs.YtgcgkcchoghkaaaDoorW.PrintWords Go.Proofs.YtgcgkcchoghkaaaDoorW.PrintLast Go.Proofs.YtgcgkcchoghkaaaDoorW.PrintMore
set_option linter.unusedVariables false
set_option linter.unusedSimpArgs false
theorem toList_nil {s : ByteArray} : s.toList = [] ↔ s.size = 0 := by
  rw [ByteArray.toList_eq]
  constructor
  · intro h
    have : s.data.size = 0 := by rw [← Array.length_toList, h]; rfl
    exact this
  · intro h
    have h : s.data.size = 0 := h
    rw [← List.length_eq_zero_iff, Array.length_toList]; exact h
def dig (s : ByteArray) (i : Nat) : Int := (bt s i - 48) % 256
def digB (s : ByteArray) (i : Nat) : Bool := inB (bt s i) 48 57
def valI (s : ByteArray) : Nat → Int
  | 0 => 0
  | i + 1 => valI s i * 10 + dig s i
theorem valI_bound (s : ByteArray) : ∀ i, 0 ≤ valI s i ∧ valI s i ≤ 29 * ((10 ^ i : Nat) : Int) - 29
  | 0 => by simp [valI]
  | i + 1 => by
    obtain ⟨h0, h1⟩ := valI_bound s i
    rw [valI, Nat.pow_succ]
    unfold dig
    omega
theorem pow_le9 {i : Nat} (h : i ≤ 9) : (10 ^ i : Nat) ≤ 1000000000 := Nat.pow_le_pow_right (n := 10) (by omega) h
theorem find_const {α : Type} (n : Nat) (ok : Nat → Bool) (a b : α) : ((List.range n).find? (fun i => !ok i)).elim a (fun _ => b) = if allN n ok = true then a else b := by
  cases h : (List.range n).find? (fun i => !ok i) with
  | none =>
    have : allN n ok = true := by
      rw [allN_true]
      intro i hi
      have := List.find?_eq_none.1 h i (by simpa using hi)
      simpa using this
    rw [if_pos this]; rfl
  | some i =>
    have h1 := List.find?_some h
    have h2 := List.mem_of_find?_eq_some h
    have : ¬ allN n ok = true := by
      rw [allN_true]
      intro hh
      rw [hh i (by simpa using h2)] at h1
      simp at h1
    rw [if_neg this]; rfl
def numB (s : ByteArray) : Bool := inB s.size 1 9 && (!(decide ((s.size : Int) > 1) && bt s 0 == 48) && allN s.size (digB s))
def numR (s : ByteArray) : Int := if numB s = true then valI s s.size else -1
theorem numR_nonneg {s : ByteArray} : 0 ≤ numR s ↔ numB s = true := by
  unfold numR
  split
  · have := valI_bound s s.size; simp [*]
  · simp [*]
theorem l4Number_ev (s : ByteArray) (hs : s.size ≤ 9223372036854775807) : Ev (fun k => spec_l4Number.f k s) (numR s) := by
  unfold spec_l4Number.f
  simp only [l1In_f, Option.bind_some]
  have bad : ∀ b : Bool, b = true → numB s = false → Ev (fun k => spec_l4Number.j0 k s 0 b) (numR s) := fun b hb h => by
    unfold numR
    rw [h, if_neg Bool.false_ne_true]
    exact Ev.step (fun k => by rw [spec_l4Number.j0]) (ev_if_pos hb (Ev.now _))
  cases hr : inB s.size 1 9 with
  | false => exact ev_if_neg Bool.false_ne_true (bad _ rfl (by simp [numB, hr]))
  | true =>
    have h9 := inB_true hr
    refine ev_if_pos rfl ?_
    have good : ∀ b : Bool, b = (decide ((s.size : Int) > 1) && bt s 0 == 48) → Ev (fun k => spec_l4Number.j0 k s 0 b) (numR s) := by
      intro b hb
      cases b with
      | true => exact bad true rfl (by unfold numB; rw [← hb]; simp)
      | false =>
        refine Ev.step (fun k => by rw [spec_l4Number.j0]) (ev_if_neg Bool.false_ne_true ?_)
        have := loop_find (g := fun k i => spec_l4Number.l0 k s (valI s i.toNat) i) s.size (fun i => !digB s i) (fun _ => (-1 : Int)) (valI s s.size) ?_ ?_ ?_
        · rw [find_const] at this
          refine ev_rw this ?_
          unfold numR numB
          rw [hr, ← hb]
          simp
        · intro i hi hok r hr2
          have hb1 := valI_bound s i
          have hb2 := pow_le9 (i := i) (by omega)
          refine Ev.step (fun k => by rw [spec_l4Number.l0]) ?_
          simp only [Int.toNat_natCast, wsucc hi hs, l1In_f, Option.bind_some] at hr2 ⊢
          have hw : wrap64 (bt s i) = bt s i := w64 (by have := bt_lo s i; omega) (by have := bt_hi s i; omega)
          have hd : 0 ≤ dig s i ∧ dig s i ≤ 255 := by unfold dig; omega
          have he : wrap64 (wrap64 (valI s i * 10) + (bt s i - 48) % 256) = valI s (i + 1) := by
            rw [valI]
            show wrap64 (wrap64 (valI s i * 10) + dig s i) = _
            rw [w64 (x := valI s i * 10) (by omega) (by omega), w64 (by omega) (by omega)]
          rw [hw, he]
          exact ev_if_pos (by omega) (ev_if_pos (by omega) (ev_if_pos (by simpa [digB] using hok) hr2))
        · intro i hi hok
          refine Ev.step (fun k => by rw [spec_l4Number.l0]) ?_
          simp only [Int.toNat_natCast, l1In_f, Option.bind_some]
          have hw : wrap64 (bt s i) = bt s i := w64 (by have := bt_lo s i; omega) (by have := bt_hi s i; omega)
          rw [hw]
          exact ev_if_pos (by omega) (ev_if_pos (by omega) (ev_if_neg (by simpa [digB] using hok) (Ev.now _)))
        · refine Ev.step (fun k => by rw [spec_l4Number.l0]) (ev_if_neg (by omega) ?_)
          simp only [Int.toNat_natCast]
          exact Ev.now _
    by_cases c : (s.size : Int) > 1
    · exact ev_if_pos c (ev_if_pos (by omega) (good _ (by simp [c])))
    · exact ev_if_neg c (good _ (by simp [c]))
theorem implDigits_ev (s : ByteArray) (hs : s.size ≤ 9223372036854775807) : Ev (fun k => impl_digits.f k s 9) (if numB s = true then (valI s s.size, true) else (0, false)) := by
  unfold impl_digits.f
  have bad : ∀ b : Bool, b = true → numB s = false → Ev (fun k => impl_digits.j0 k s b) (if numB s = true then (valI s s.size, true) else (0, false)) := fun b hb h => by
    rw [h, if_neg Bool.false_ne_true]
    exact Ev.step (fun k => by rw [impl_digits.j0]) (ev_if_pos hb (Ev.now _))
  by_cases c0 : s.toList = []
  · have := toList_nil.1 c0
    exact ev_if_pos c0 (bad _ rfl (by unfold numB inB; rw [decide_eq_false (by omega)]; simp))
  · have hne : s.size ≠ 0 := fun h => c0 (toList_nil.2 h)
    refine ev_if_neg c0 ?_
    by_cases c1 : (s.size : Int) > 9
    · exact ev_if_pos c1 (bad _ rfl (by unfold numB inB; rw [decide_eq_false (by omega)]; simp))
    · refine ev_if_neg c1 (ev_if_pos (by omega) ?_)
      have hr : inB s.size 1 9 = true := by unfold inB; rw [decide_eq_true_iff]; omega
      have good : ∀ b : Bool, b = (decide ((s.size : Int) > 1) && bt s 0 == 48) → Ev (fun k => impl_digits.j0 k s b) (if numB s = true then (valI s s.size, true) else (0, false)) := by
        intro b hb
        cases b with
        | true => exact bad true rfl (by unfold numB; rw [← hb]; simp)
        | false =>
          refine Ev.step (fun k => by rw [impl_digits.j0]) (ev_if_neg Bool.false_ne_true ?_)
          have := loop_find (g := fun k i => impl_digits.l0 k s (valI s i.toNat) s.size i) s.size (fun i => !digB s i) (fun _ => ((0 : Int), false)) (valI s s.size, true) ?_ ?_ ?_
          · rw [find_const] at this
            refine ev_rw this ?_
            unfold numB
            rw [hr, ← hb]
            simp
          · intro i hi hok r hr2
            have hb1 := valI_bound s i
            have hb2 := pow_le9 (i := i) (by omega)
            have hdb : 48 ≤ bt s i ∧ bt s i ≤ 57 := inB_true (by simpa [digB] using hok)
            refine Ev.step (fun k => by rw [impl_digits.l0]) ?_
            simp only [Int.toNat_natCast, wsucc hi hs] at hr2 ⊢
            have hd : 0 ≤ dig s i ∧ dig s i ≤ 255 := by unfold dig; omega
            have he : wrap64 (wrap64 (10 * valI s i) + (bt s i - 48) % 256) = valI s (i + 1) := by
              rw [valI]
              show wrap64 (wrap64 (10 * valI s i) + dig s i) = _
              rw [w64 (x := 10 * valI s i) (by omega) (by omega), w64 (by omega) (by omega)]; omega
            rw [he]
            exact ev_if_pos (by omega) (ev_if_pos (by omega) (ev_if_pos (by omega) (ev_if_neg (by omega) (ev_if_neg (by omega) hr2))))
          · intro i hi hok
            have hdb : ¬ (48 ≤ bt s i ∧ bt s i ≤ 57) := by
              intro h
              have : digB s i = true := by unfold digB inB; exact decide_eq_true h
              rw [this] at hok; simp at hok
            refine Ev.step (fun k => by rw [impl_digits.l0]) ?_
            refine ev_if_pos (by omega) (ev_if_pos (by omega) (ev_if_pos (by omega) (ev_if (fun c => Ev.now _) (fun c => ev_if_pos (by omega) (Ev.now _)))))
          · refine Ev.step (fun k => by rw [impl_digits.l0]) (ev_if_neg (by omega) ?_)
            simp only [Int.toNat_natCast]
            exact Ev.now _
      by_cases c : bt s 0 = 48
      · exact ev_if_pos c (good _ (by simp [c]))
      · exact ev_if_neg c (good _ (by simp [c]))
theorem implNumber_ev (s : ByteArray) (hs : s.size ≤ 9223372036854775807) : Ev (fun k => impl_number.f k s) (if numB s = true then (valI s s.size, true) else (0, false)) := by
  unfold impl_number.f
  exact Ev.bind (implDigits_ev s hs) (Ev.now _)
theorem isNumber_ev (s : ByteArray) (hs : s.size ≤ 9223372036854775807) : Ev (fun k => impl_isNumber.f k s) (numB s) := by
  unfold impl_isNumber.f
  refine Ev.bind (implNumber_ev s hs) (ev_some ?_)
  cases numB s <;> rfl
end Go.Proofs.YtgcgkcchoghkaaaDoor.G

/- PSearch -/
/-
  Searches by a test that is answered: from some number of rounds on.
-/
namespace Go.Proofs.YtgcgkcchoghkaaaDoor.G
open Go.RowKit Go.Proofs.YtgcgkcchoghkaaaDoorW.PrintWords Go.Proofs.YtgcgkcchoghkaaaDoorW.PrintLast Go.Proofs.YtgcgkcchoghkaaaDoorW.PrintMore
set_option linter.unusedVariables false
set_option linter.unusedSimpArgs false
theorem idxO_ev' {α : Type} {p : Nat → α → Option Bool} {q : α → Bool} : ∀ (l : List α) (i : Nat), (∀ x ∈ l, Ev (fun k => p k x) (q x)) → ∃ r, Ev (fun k => idxO (p k) l i) r ∧ (decide (0 ≤ r) = l.any q)
  | [], i, _ => ⟨-1, Ev.now _, by simp⟩
  | x :: xs, i, h => by
    have hx := h x (by simp)
    cases hq : q x with
    | true =>
      rw [hq] at hx
      exact ⟨i, Ev.congr (fun k => by rw [idxO]) (Ev.bind (f := fun k t => if t = true then some (i : Int) else idxO (p k) xs (i + 1)) hx (ev_if_pos rfl (Ev.now _))), by rw [List.any_cons, hq, Bool.true_or]; exact decide_eq_true (by omega)⟩
    | false =>
      rw [hq] at hx
      obtain ⟨r, hr, he⟩ := idxO_ev' xs (i + 1) (fun y hy => h y (by simp [hy]))
      exact ⟨r, Ev.congr (fun k => by rw [idxO]) (Ev.bind (f := fun k t => if t = true then some (i : Int) else idxO (p k) xs (i + 1)) hx (ev_if_neg Bool.false_ne_true hr)), by rw [List.any_cons, hq, Bool.false_or, he]⟩
theorem any_allN' {α : Type} (xs : List α) (q : α → Bool) (rd : Nat → α) (hrd : ∀ i (h : i < xs.length), rd i = xs[i]) : (!xs.any (fun x => !q x)) = allN xs.length (fun i => q (rd i)) := by
  rw [Bool.eq_iff_iff, allN_true]
  simp only [Bool.not_eq_true', List.any_eq_false]
  constructor
  · intro h i hi
    rw [hrd i hi]
    simpa using h _ (List.getElem_mem hi)
  · intro h x hx
    obtain ⟨i, hi, rfl⟩ := List.getElem_of_mem hx
    have := h i hi
    rw [hrd i hi] at this
    simp [this]
end Go.Proofs.YtgcgkcchoghkaaaDoor.G
