/-
  The laws on amounts, walked.
-/
import Derived.Test.YtbdegifmcppciaaAmt3
import Derived.Test.YtbdegifmcppciaaAmtArg
namespace Go.Proofs.Ytbdegifmcppciaa
open Go.RowKit
set_option linter.unusedVariables false
set_option linter.unusedSimpArgs false
theorem amt_cells {w : World} {g : Nat} {v0 v1 v2 : Value} {t : TypeId} {fr : Nat × Nat} (h : w.heap[g]? = some (.cells #[v0, v1, v2] t fr)) :
    w.cell? ⟨g, 0, none⟩ = some v0 ∧ w.cell? ⟨g, 1, none⟩ = some v1 ∧ w.cell? ⟨g, 2, none⟩ = some v2 :=
  ⟨cell_of_row w g 0 _ t fr h, cell_of_row w g 1 _ t fr h, cell_of_row w g 2 _ t fr h⟩
theorem Calls.below {P : Program} {f : FuncId} {args : Array Value} {w : World} {v : Value} {o : Obj} (h : Calls P f args w fun e w' => e = .returned v ∧ w' = w.alloc o) : Calls P f args w fun e w' => e = .returned v ∧ Below w.heap.size w w' :=
  h.mono fun _ _ ⟨h1, h2⟩ => ⟨h1, by rw [h2]; exact belowA (Below.refl _ _) _⟩
set_option maxHeartbeats 800000 in
theorem law_AmountsOk (x : Amt) (w : World) : Calls Try.prog 5 #[x.v] w fun e w' => e = .returned (.bool true) ∧ Below w.heap.size w w' := by
  obtain ⟨a, b, c⟩ := x
  have h0 := toAmounts_any ⟨a, b, c⟩
  have h1 := fun w => Calls.below (specAmountsOk_any ⟨a, b, c⟩ w)
  have h2 := toAmounts_any ⟨a, b, c⟩
  have h3 := fun w => Calls.below (implAmountsOk_any ⟨a, b, c⟩ w)
  unfold Amt.v at h0 h1 h2 h3 ⊢
  have H0 := Lib.hid h0
  have H1 := Lib.hid h1
  have H2 := Lib.hid h2
  have H3 := Lib.hid h3
  clear h0 h1 h2 h3
  go_enter Try.func5, Try.ntmps5
  go_wp2_with fail
  have g0 := heap_alloc_new w (.cells #[.int .i64 a, .int .i64 b, .int .i64 c] 26)
  have hb0 := belowA (Below.refl w.heap.size w) (.cells #[.int .i64 a, .int .i64 b, .int .i64 c] 26)
  have G0 := Lib.hid g0
  clear g0
  have HB := Lib.hid hb0
  clear hb0
  refine (H0.out _).mono ?_
  rintro e w1 ⟨rfl, hb⟩
  have K0 := Lib.hid (blk_below G0.out hb)
  have HB2 := Lib.hid (belowT HB.out hb)
  clear G0 HB hb
  have G0 := K0
  have HB := HB2
  clear K0 HB2
  try clear c0 c1 c2
  obtain ⟨c0, c1, c2⟩ := amt_cells G0.out
  go_wp2_with fail
  refine (H1.out _).mono ?_
  rintro e w2 ⟨rfl, hb⟩
  have K0 := Lib.hid (blk_below G0.out hb)
  have HB2 := Lib.hid (belowT HB.out hb)
  clear G0 HB hb
  have G0 := K0
  have HB := HB2
  clear K0 HB2
  try clear c0 c1 c2
  obtain ⟨c0, c1, c2⟩ := amt_cells G0.out
  go_wp2_with fail
  refine (H2.out _).mono ?_
  rintro e w3 ⟨rfl, hb⟩
  have K0 := Lib.hid (blk_below G0.out hb)
  have HB2 := Lib.hid (belowT HB.out hb)
  clear G0 HB hb
  have G0 := K0
  have HB := HB2
  clear K0 HB2
  try clear c0 c1 c2
  obtain ⟨c0, c1, c2⟩ := amt_cells G0.out
  go_wp2_with fail
  refine (H3.out _).mono ?_
  rintro e w4 ⟨rfl, hb⟩
  have K0 := Lib.hid (blk_below G0.out hb)
  have HB2 := Lib.hid (belowT HB.out hb)
  clear G0 HB hb
  have G0 := K0
  have HB := HB2
  clear K0 HB2
  try clear c0 c1 c2
  obtain ⟨c0, c1, c2⟩ := amt_cells G0.out
  go_wp2
  all_goals go_ret
  all_goals exact ⟨rfl, HB.out⟩
theorem toAmounts3 (a b c : Int) (w : World) : Calls Try.prog 18 #[.agg #[.int .i64 a, .int .i64 b, .int .i64 c]] w fun e w' => e = .returned (.agg #[.int .i64 a, .int .i64 b, .int .i64 c]) ∧ Below w.heap.size w w' := toAmounts_any ⟨a, b, c⟩ w
theorem specFits3 (a b c p q r : Int) (w : World) : Calls Try.prog 20 #[.agg #[.int .i64 a, .int .i64 b, .int .i64 c], .agg #[.int .i64 p, .int .i64 q, .int .i64 r]] w fun e w' => e = .returned (.int .i64 (fitsOf ⟨a, b, c⟩ ⟨p, q, r⟩)) ∧ Below w.heap.size w w' := specFits_any ⟨a, b, c⟩ ⟨p, q, r⟩ w
theorem implFits3 (a b c p q r : Int) (w : World) : Calls Try.prog 21 #[.agg #[.int .i64 a, .int .i64 b, .int .i64 c], .agg #[.int .i64 p, .int .i64 q, .int .i64 r]] w fun e w' => e = .returned (.int .i64 (fitsOf ⟨a, b, c⟩ ⟨p, q, r⟩)) ∧ Below w.heap.size w w' := implFits_any ⟨a, b, c⟩ ⟨p, q, r⟩ w
set_option maxHeartbeats 1600000 in
theorem law_Fits (x y : Amt) (w : World) : Calls Try.prog 6 #[x.v, y.v] w fun e w' => e = .returned (.bool true) ∧ Below w.heap.size w w' := by
  obtain ⟨a, b, c⟩ := x
  obtain ⟨p, q, r⟩ := y
  unfold Amt.v
  go_enter Try.func6, Try.ntmps6
  go_wp2_with fail
  have hb0 := belowA (belowA (Below.refl w.heap.size w) (.cells #[.int .i64 a, .int .i64 b, .int .i64 c] 26)) (.cells #[.int .i64 p, .int .i64 q, .int .i64 r] 26)
  go_region_held3 (fun w' => w'.cell? ⟨w.heap.size, 0, none⟩ = some (.int .i64 a) ∧ w'.cell? ⟨w.heap.size, 1, none⟩ = some (.int .i64 b) ∧ w'.cell? ⟨w.heap.size, 2, none⟩ = some (.int .i64 c) ∧ w'.cell? ⟨w.heap.size + 1, 0, none⟩ = some (.int .i64 p) ∧ w'.cell? ⟨w.heap.size + 1, 1, none⟩ = some (.int .i64 q) ∧ w'.cell? ⟨w.heap.size + 1, 2, none⟩ = some (.int .i64 r) ∧ Below w.heap.size w w')
    (first | (go_split_ands; exact ⟨below_cell hb (by assumption), below_cell hb (by assumption), below_cell hb (by assumption), below_cell hb (by assumption), below_cell hb (by assumption), below_cell hb (by assumption), belowT (by assumption) hb⟩) | (go_split_ands; refine ⟨?_, ?_, ?_, ?_, ?_, ?_, belowD hb0⟩ <;> go_keep) | go_keep)
    (first | (go_at_call 18; refine (toAmounts3 _ _ _ _).mono ?_; rintro e w' ⟨rfl, hb⟩) | (go_at_call 20; refine (specFits3 _ _ _ _ _ _ _).mono ?_; rintro e w' ⟨rfl, hb⟩))
  all_goals
    rename_i hS
    clear hb0
    obtain ⟨c0, c1, c2, d0, d1, d2, hb0⟩ := hS
    go_wp2_with fail
    go_region_held3 (fun w' => w'.cell? ⟨w.heap.size, 0, none⟩ = some (.int .i64 a) ∧ w'.cell? ⟨w.heap.size, 1, none⟩ = some (.int .i64 b) ∧ w'.cell? ⟨w.heap.size, 2, none⟩ = some (.int .i64 c) ∧ w'.cell? ⟨w.heap.size + 1, 0, none⟩ = some (.int .i64 p) ∧ w'.cell? ⟨w.heap.size + 1, 1, none⟩ = some (.int .i64 q) ∧ w'.cell? ⟨w.heap.size + 1, 2, none⟩ = some (.int .i64 r) ∧ Below w.heap.size w w')
      (first | (go_split_ands; exact ⟨below_cell hb (by assumption), below_cell hb (by assumption), below_cell hb (by assumption), below_cell hb (by assumption), below_cell hb (by assumption), below_cell hb (by assumption), belowT (by assumption) hb⟩) | (go_split_ands; refine ⟨?_, ?_, ?_, ?_, ?_, ?_, belowD hb0⟩ <;> go_keep) | go_keep)
      (first | (go_at_call 18; refine (toAmounts3 _ _ _ _).mono ?_; rintro e w' ⟨rfl, hb⟩) | (go_at_call 21; refine (implFits3 _ _ _ _ _ _ _).mono ?_; rintro e w' ⟨rfl, hb⟩))
    all_goals
      rename_i hS
      clear hb0 c0 c1 c2 d0 d1 d2
      obtain ⟨c0, c1, c2, d0, d1, d2, hb0⟩ := hS
      go_wp2
      go_ret
      exact ⟨rfl, hb0⟩
end Go.Proofs.Ytbdegifmcppciaa
