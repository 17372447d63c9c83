/-
  The law FnExactTimes, walked.
-/
import Derived.Test.YtbdegifmcppciaaWalkAmt
namespace Go.Proofs.Ytbdegifmcppciaa
open Go.RowKit
set_option linter.unusedVariables false
set_option linter.unusedSimpArgs false
theorem timesV_form (x : Amt) (n : Int) : ∃ (y : Amt) (bb : Bool), timesV x n = .tuple #[.agg #[.int .i64 y.a, .int .i64 y.b, .int .i64 y.c], .bool bb] := by
  unfold timesV
  split
  · exact ⟨⟨_, _, _⟩, true, rfl⟩
  · exact ⟨amtZero, false, rfl⟩
theorem eqAmountsT (a b c : Int) (w : World) : Calls Try.prog 26 #[.agg #[.int .i64 a, .int .i64 b, .int .i64 c], .agg #[.int .i64 a, .int .i64 b, .int .i64 c]] w fun e w' => e = .returned (.bool true) ∧ Below w.heap.size w w' := eqAmounts_same ⟨a, b, c⟩ w
theorem toAmountsT (a b c : Int) (w : World) : Calls Try.prog 18 #[.agg #[.int .i64 a, .int .i64 b, .int .i64 c]] w fun e w' => e = .returned (.agg #[.int .i64 a, .int .i64 b, .int .i64 c]) ∧ Below w.heap.size w w' := toAmounts_any ⟨a, b, c⟩ w
set_option maxHeartbeats 1600000 in
theorem law_Times (x : Amt) (n : Int) (w : World) (hn0 : -9223372036854775808 ≤ n ∧ n ≤ 9223372036854775807) : Calls Try.prog 9 #[x.v, .int .i64 n] w fun e w' => e = .returned (.bool true) ∧ Below w.heap.size w w' := by
  obtain ⟨y, bb, hy⟩ := timesV_form x n
  have hs := fun w => specTimes_any x n w
  have hi := fun w => implTimes_any x n w
  rw [hy] at hs hi
  clear hy
  obtain ⟨a, b, c⟩ := x
  obtain ⟨p, q, r⟩ := y
  unfold Amt.v at hs hi ⊢
  have HS := Lib.hid hs
  have HI := Lib.hid hi
  clear hs hi
  go_enter Try.func9, Try.ntmps9
  go_wp2_with fail
  have hB0 := belowA (Below.refl w.heap.size w) (.cells #[.int .i64 a, .int .i64 b, .int .i64 c] 26)
  have G0 := Lib.hid (heap_alloc_new w (.cells #[.int .i64 a, .int .i64 b, .int .i64 c] 26))
  refine (toAmountsT a b c _).mono ?_
  rintro e w1 ⟨rfl, hb1⟩
  have hB1 := belowT hB0 hb1
  have G1 := Lib.hid (blk_below G0.out hb1)
  have hz1 := hb1.size
  simp only [World.size_alloc] at hz1
  clear hB0 G0 hb1
  obtain ⟨c0, c1, c2⟩ := amt_cells G1.out
  go_wp2_with fail
  refine (HS.out _).mono ?_
  rintro e w2 ⟨rfl, hb2⟩
  have hB2 := belowT hB1 hb2
  have G2 := Lib.hid (blk_below G1.out hb2)
  have hz2 := hb2.size
  clear hB1 G1 hb2 c0 c1 c2
  obtain ⟨c0, c1, c2⟩ := amt_cells G2.out
  have k2 : w.heap.size < w2.heap.size := by omega
  go_wp2_with fail
  have hB2b := belowA hB2 (.cells #[.int .i64 p, .int .i64 q, .int .i64 r] 28)
  have G2b := Lib.hid (blk_alloc G2.out (.cells #[.int .i64 p, .int .i64 q, .int .i64 r] 28))
  have H2 := Lib.hid (heap_alloc_new w2 (.cells #[.int .i64 p, .int .i64 q, .int .i64 r] 28))
  refine (toAmountsT a b c _).mono ?_
  rintro e w3 ⟨rfl, hb3⟩
  have hB3 := belowT hB2b hb3
  have G3 := Lib.hid (blk_below G2b.out hb3)
  have H3 := Lib.hid (blk_below H2.out hb3)
  have hz3 := hb3.size
  simp only [World.size_alloc] at hz3
  clear hB2 hB2b G2 G2b H2 hb3 c0 c1 c2
  obtain ⟨c0, c1, c2⟩ := amt_cells G3.out
  go_wp2_with fail
  refine (HI.out _).mono ?_
  rintro e w4 ⟨rfl, hb4⟩
  have hB4 := belowT hB3 hb4
  have H4 := Lib.hid (blk_below H3.out hb4)
  have hz4 := hb4.size
  clear hB3 G3 H3 hb4 c0 c1 c2
  obtain ⟨d0, d1, d2⟩ := amt_cells H4.out
  have k4 : w2.heap.size < w4.heap.size := by omega
  go_wp2_with fail
  have hB4b := belowA hB4 (.cells #[.int .i64 p, .int .i64 q, .int .i64 r] 28)
  refine (eqAmountsT p q r _).mono ?_
  rintro e w5 ⟨rfl, hb5⟩
  have hB5 := belowT hB4b hb5
  clear hB4 hB4b
  cases bb
  all_goals
    go_wp2
    go_ret
    exact ⟨rfl, hB5⟩
end Go.Proofs.Ytbdegifmcppciaa
