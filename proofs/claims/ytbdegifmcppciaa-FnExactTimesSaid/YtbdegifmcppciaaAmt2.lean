/-
  Amounts: Times and Fits.
-/
import Derived.Test.YtbdegifmcppciaaAmt
import Derived.BigRegion
namespace Go.Proofs.Ytbdegifmcppciaa
open Go.RowKit
set_option linter.unusedVariables false
set_option linter.unusedSimpArgs false

noncomputable def timesV (x : Amt) (n : Int) : Value :=
  if amtOk x = true ∧ inB n 0 1000000 = true ∧ (0 < n → x.a ≤ 1000000000000000 / n ∧ x.b ≤ 1000000000000000 / n ∧ x.c ≤ 1000000000000000 / n) then .tuple #[Amt.v ⟨x.a * n, x.b * n, x.c * n⟩, .bool true] else .tuple #[amtZero.v, .bool false]
theorem mul_bound {a n : Int} (h0 : 0 ≤ a) (hn : 0 < n) (h : a ≤ 1000000000000000 / n) : 0 ≤ a * n ∧ a * n ≤ 1000000000000000 :=
  ⟨Int.mul_nonneg h0 (Int.le_of_lt hn), by have := Int.mul_le_mul_of_nonneg_right h (Int.le_of_lt hn); have h2 := Int.ediv_mul_le 1000000000000000 (b := n) (by omega); omega⟩
def fitStep (n e r : Int) : Int := if 0 < e then (if r / e < n then r / e else n) else n
def fitsOf (x y : Amt) : Int := if amtOk x = true ∧ amtOk y = true then fitStep (fitStep (fitStep 1000000 x.a y.a) x.b y.b) x.c y.c else 0
theorem fitStep_bound {n e r : Int} (h0 : 0 ≤ n) (h1 : n ≤ 1000000) (he : 0 ≤ e) (hr : 0 ≤ r) : 0 ≤ fitStep n e r ∧ fitStep n e r ≤ 1000000 := by
  unfold fitStep
  split
  · split
    · exact ⟨Int.ediv_nonneg hr he, by omega⟩
    · exact ⟨h0, h1⟩
  · exact ⟨h0, h1⟩
theorem quo_bound {e r : Int} (he : 0 < e) (hr : 0 ≤ r) (h1 : r ≤ 1000000000000000) : 0 ≤ r / e ∧ r / e ≤ 1000000000000000 :=
  ⟨Int.ediv_nonneg hr (Int.le_of_lt he), Int.le_trans (Int.ediv_le_self e hr) h1⟩
set_option maxHeartbeats 800000 in
theorem specTimes_any (x : Amt) (n : Int) (w : World) : Calls Try.prog 27 #[x.v, .int .i64 n] w fun e w' => e = .returned (timesV x n) ∧ Below w.heap.size w w' := by
  obtain ⟨a, b, c⟩ := x
  by_cases hx : amtOk ⟨a, b, c⟩ = true
  · by_cases hn : inB n 0 1000000 = true
    · obtain ⟨⟨a1, a2⟩, ⟨b1, b2⟩, c1, c2⟩ := amtOk_iff.1 hx
      dsimp only at a1 a2 b1 b2 c1 c2
      obtain ⟨n1, n2⟩ := inB_iff.1 hn
      by_cases h0 : 0 < n
      · by_cases ha : a ≤ 1000000000000000 / n
        · obtain ⟨am1, am2⟩ := mul_bound a1 h0 ha
          by_cases hb : b ≤ 1000000000000000 / n
          · obtain ⟨bm1, bm2⟩ := mul_bound b1 h0 hb
            by_cases hc : c ≤ 1000000000000000 / n
            · obtain ⟨cm1, cm2⟩ := mul_bound c1 h0 hc
              have HV : Hid (timesV ⟨a, b, c⟩ n = .tuple #[.agg #[.int .i64 (a * n), .int .i64 (b * n), .int .i64 (c * n)], .bool true]) := by unfold Hid timesV; rw [if_pos ⟨hx, hn, fun _ => ⟨ha, hb, hc⟩⟩]; rfl
              unfold Amt.v
              go_enter Try.func27, Try.ntmps27
              go_wp2_with (first | (go_at_call 17; refine (specAmountsOk_any ⟨_, _, _⟩ _).mono ?_; rintro e w' ⟨rfl, rfl⟩) | (go_at_call 44; refine (l1In_any _ _ _ _).mono ?_; rintro e w' ⟨rfl, rfl⟩))
              refine wp_loop_rounds 4 ?_
              rw [rounds_succ]; go_wp2; go_quiet (fail); go_wp2
              rw [rounds_succ]; go_wp2; go_quiet (fail); go_wp2
              rw [rounds_succ]; go_wp2; go_quiet (fail); go_wp2
              rw [rounds_succ]; go_wp2
              exact bodyPost_ret (v := .tuple #[.agg #[.int .i64 (a * n), .int .i64 (b * n), .int .i64 (c * n)], .bool true]) (by simp [results, Try.results27, go_sem]) rfl ⟨by rw [HV.out], by repeat (first | (with_reducible exact Below.refl _ _) | (with_reducible refine belowS ?_ _ _ (by omega) _) | (with_reducible refine belowA ?_ _) | (with_reducible refine belowN ?_ _) | (with_reducible refine belowD ?_))⟩
            · have hneg : 1000000000000000 / n < c := by omega
              have HV : Hid (timesV ⟨a, b, c⟩ n = .tuple #[.agg #[.int .i64 0, .int .i64 0, .int .i64 0], .bool false]) := by unfold Hid timesV; rw [if_neg (fun h => absurd (h.2.2 h0).2.2 (by simpa using hneg))]; rfl
              clear hc
              unfold Amt.v
              go_enter Try.func27, Try.ntmps27
              go_wp2_with (first | (go_at_call 17; refine (specAmountsOk_any ⟨_, _, _⟩ _).mono ?_; rintro e w' ⟨rfl, rfl⟩) | (go_at_call 44; refine (l1In_any _ _ _ _).mono ?_; rintro e w' ⟨rfl, rfl⟩))
              refine wp_loop_rounds 4 ?_
              rw [rounds_succ]; go_wp2; go_quiet (fail); go_wp2
              rw [rounds_succ]; go_wp2; go_quiet (fail); go_wp2
              rw [rounds_succ]; go_wp2; go_quiet (fail); go_wp2
              exact bodyPost_ret (v := .tuple #[.agg #[.int .i64 0, .int .i64 0, .int .i64 0], .bool false]) (by simp [results, Try.results27, go_sem]) rfl ⟨by rw [HV.out], by repeat (first | (with_reducible exact Below.refl _ _) | (with_reducible refine belowS ?_ _ _ (by omega) _) | (with_reducible refine belowA ?_ _) | (with_reducible refine belowN ?_ _) | (with_reducible refine belowD ?_))⟩
          · have hneg : 1000000000000000 / n < b := by omega
            have HV : Hid (timesV ⟨a, b, c⟩ n = .tuple #[.agg #[.int .i64 0, .int .i64 0, .int .i64 0], .bool false]) := by unfold Hid timesV; rw [if_neg (fun h => absurd (h.2.2 h0).2.1 (by simpa using hneg))]; rfl
            clear hb
            unfold Amt.v
            go_enter Try.func27, Try.ntmps27
            go_wp2_with (first | (go_at_call 17; refine (specAmountsOk_any ⟨_, _, _⟩ _).mono ?_; rintro e w' ⟨rfl, rfl⟩) | (go_at_call 44; refine (l1In_any _ _ _ _).mono ?_; rintro e w' ⟨rfl, rfl⟩))
            refine wp_loop_rounds 4 ?_
            rw [rounds_succ]; go_wp2; go_quiet (fail); go_wp2
            rw [rounds_succ]; go_wp2; go_quiet (fail); go_wp2
            exact bodyPost_ret (v := .tuple #[.agg #[.int .i64 0, .int .i64 0, .int .i64 0], .bool false]) (by simp [results, Try.results27, go_sem]) rfl ⟨by rw [HV.out], by repeat (first | (with_reducible exact Below.refl _ _) | (with_reducible refine belowS ?_ _ _ (by omega) _) | (with_reducible refine belowA ?_ _) | (with_reducible refine belowN ?_ _) | (with_reducible refine belowD ?_))⟩
        · have hneg : 1000000000000000 / n < a := by omega
          have HV : Hid (timesV ⟨a, b, c⟩ n = .tuple #[.agg #[.int .i64 0, .int .i64 0, .int .i64 0], .bool false]) := by unfold Hid timesV; rw [if_neg (fun h => absurd (h.2.2 h0).1 (by simpa using hneg))]; rfl
          clear ha
          unfold Amt.v
          go_enter Try.func27, Try.ntmps27
          go_wp2_with (first | (go_at_call 17; refine (specAmountsOk_any ⟨_, _, _⟩ _).mono ?_; rintro e w' ⟨rfl, rfl⟩) | (go_at_call 44; refine (l1In_any _ _ _ _).mono ?_; rintro e w' ⟨rfl, rfl⟩))
          refine wp_loop_rounds 4 ?_
          rw [rounds_succ]; go_wp2; go_quiet (fail); go_wp2
          exact bodyPost_ret (v := .tuple #[.agg #[.int .i64 0, .int .i64 0, .int .i64 0], .bool false]) (by simp [results, Try.results27, go_sem]) rfl ⟨by rw [HV.out], by repeat (first | (with_reducible exact Below.refl _ _) | (with_reducible refine belowS ?_ _ _ (by omega) _) | (with_reducible refine belowA ?_ _) | (with_reducible refine belowN ?_ _) | (with_reducible refine belowD ?_))⟩
      · obtain rfl : n = 0 := by omega
        have HV : Hid (timesV ⟨a, b, c⟩ 0 = .tuple #[.agg #[.int .i64 0, .int .i64 0, .int .i64 0], .bool true]) := by unfold Hid timesV; rw [if_pos ⟨hx, hn, fun h => absurd h (by omega)⟩]; simp [Amt.v]
        clear h0
        unfold Amt.v
        go_enter Try.func27, Try.ntmps27
        go_wp2_with (first | (go_at_call 17; refine (specAmountsOk_any ⟨_, _, _⟩ _).mono ?_; rintro e w' ⟨rfl, rfl⟩) | (go_at_call 44; refine (l1In_any _ _ _ _).mono ?_; rintro e w' ⟨rfl, rfl⟩))
        refine wp_loop_rounds 4 ?_
        rw [rounds_succ]; go_wp2; go_quiet (fail); go_wp2
        rw [rounds_succ]; go_wp2; go_quiet (fail); go_wp2
        rw [rounds_succ]; go_wp2; go_quiet (fail); go_wp2
        rw [rounds_succ]; go_wp2
        exact bodyPost_ret (v := .tuple #[.agg #[.int .i64 0, .int .i64 0, .int .i64 0], .bool true]) (by simp [results, Try.results27, go_sem]) rfl ⟨by rw [HV.out], by repeat (first | (with_reducible exact Below.refl _ _) | (with_reducible refine belowS ?_ _ _ (by omega) _) | (with_reducible refine belowA ?_ _) | (with_reducible refine belowN ?_ _) | (with_reducible refine belowD ?_))⟩
    · have hn' : inB n 0 1000000 = false := by simpa using hn
      have HV : Hid (timesV ⟨a, b, c⟩ n = .tuple #[.agg #[.int .i64 0, .int .i64 0, .int .i64 0], .bool false]) := by unfold Hid timesV; rw [if_neg (fun h => hn h.2.1)]; rfl
      clear hn
      unfold Amt.v
      go_enter Try.func27, Try.ntmps27
      go_wp2_with (first | (go_at_call 17; refine (specAmountsOk_any ⟨_, _, _⟩ _).mono ?_; rintro e w' ⟨rfl, rfl⟩) | (go_at_call 44; refine (l1In_any _ _ _ _).mono ?_; rintro e w' ⟨rfl, rfl⟩))
      exact bodyPost_ret (v := .tuple #[.agg #[.int .i64 0, .int .i64 0, .int .i64 0], .bool false]) (by simp [results, Try.results27, go_sem]) rfl ⟨by rw [HV.out], by repeat (first | (with_reducible exact Below.refl _ _) | (with_reducible refine belowS ?_ _ _ (by omega) _) | (with_reducible refine belowA ?_ _) | (with_reducible refine belowN ?_ _) | (with_reducible refine belowD ?_))⟩
  · have hx' : amtOk ⟨a, b, c⟩ = false := by simpa using hx
    have HV : Hid (timesV ⟨a, b, c⟩ n = .tuple #[.agg #[.int .i64 0, .int .i64 0, .int .i64 0], .bool false]) := by unfold Hid timesV; rw [if_neg (fun h => hx h.1)]; rfl
    clear hx
    unfold Amt.v
    go_enter Try.func27, Try.ntmps27
    go_wp2_with (first | (go_at_call 17; refine (specAmountsOk_any ⟨_, _, _⟩ _).mono ?_; rintro e w' ⟨rfl, rfl⟩) | (go_at_call 44; refine (l1In_any _ _ _ _).mono ?_; rintro e w' ⟨rfl, rfl⟩))
    exact bodyPost_ret (v := .tuple #[.agg #[.int .i64 0, .int .i64 0, .int .i64 0], .bool false]) (by simp [results, Try.results27, go_sem]) rfl ⟨by rw [HV.out], by repeat (first | (with_reducible exact Below.refl _ _) | (with_reducible refine belowS ?_ _ _ (by omega) _) | (with_reducible refine belowA ?_ _) | (with_reducible refine belowN ?_ _) | (with_reducible refine belowD ?_))⟩
set_option maxHeartbeats 800000 in
theorem implTimes_any (x : Amt) (n : Int) (w : World) : Calls Try.prog 28 #[x.v, .int .i64 n] w fun e w' => e = .returned (timesV x n) ∧ Below w.heap.size w w' := by
  obtain ⟨a, b, c⟩ := x
  have ix0 : ∀ w, (Instr.index 24 (.agg #[.int .i64 a, .int .i64 b, .int .i64 c]) (.int .i64 0)).run Try.prog w = .ok (.int .i64 a) w := fun _ => by kernel_rfl
  have ix1 : ∀ w, (Instr.index 24 (.agg #[.int .i64 a, .int .i64 b, .int .i64 c]) (.int .i64 1)).run Try.prog w = .ok (.int .i64 b) w := fun _ => by kernel_rfl
  have ix2 : ∀ w, (Instr.index 24 (.agg #[.int .i64 a, .int .i64 b, .int .i64 c]) (.int .i64 2)).run Try.prog w = .ok (.int .i64 c) w := fun _ => by kernel_rfl
  by_cases hx : amtOk ⟨a, b, c⟩ = true
  · by_cases hn : inB n 0 1000000 = true
    · obtain ⟨⟨a1, a2⟩, ⟨b1, b2⟩, c1, c2⟩ := amtOk_iff.1 hx
      dsimp only at a1 a2 b1 b2 c1 c2
      obtain ⟨n1, n2⟩ := inB_iff.1 hn
      by_cases h0 : 0 < n
      · by_cases ha : a ≤ 1000000000000000 / n
        · obtain ⟨am1, am2⟩ := mul_bound a1 h0 ha
          by_cases hb : b ≤ 1000000000000000 / n
          · obtain ⟨bm1, bm2⟩ := mul_bound b1 h0 hb
            by_cases hc : c ≤ 1000000000000000 / n
            · obtain ⟨cm1, cm2⟩ := mul_bound c1 h0 hc
              have HV : Hid (timesV ⟨a, b, c⟩ n = .tuple #[.agg #[.int .i64 (a * n), .int .i64 (b * n), .int .i64 (c * n)], .bool true]) := by unfold Hid timesV; rw [if_pos ⟨hx, hn, fun _ => ⟨ha, hb, hc⟩⟩]; rfl
              unfold Amt.v
              go_enter Try.func28, Try.ntmps28
              go_wp2_with (first | (go_at_call 19; refine (implAmountsOk_any ⟨_, _, _⟩ _).mono ?_; rintro e w' ⟨rfl, rfl⟩) | (go_at_call 45; refine (within_any _ _ _ _).mono ?_; rintro e w' ⟨rfl, rfl⟩))
              refine wp_loop_rounds 4 ?_
              rw [rounds_succ]; go_wp2
              rw [rounds_succ]; go_wp2
              rw [rounds_succ]; go_wp2
              rw [rounds_succ]; go_wp2
              exact bodyPost_ret (v := .tuple #[.agg #[.int .i64 (a * n), .int .i64 (b * n), .int .i64 (c * n)], .bool true]) (by simp [results, Try.results28, go_sem]) rfl ⟨by rw [HV.out], by repeat (first | (with_reducible exact Below.refl _ _) | (with_reducible refine belowS ?_ _ _ (by omega) _) | (with_reducible refine belowA ?_ _) | (with_reducible refine belowN ?_ _) | (with_reducible refine belowD ?_))⟩
            · have hneg : 1000000000000000 / n < c := by omega
              have HV : Hid (timesV ⟨a, b, c⟩ n = .tuple #[.agg #[.int .i64 0, .int .i64 0, .int .i64 0], .bool false]) := by unfold Hid timesV; rw [if_neg (fun h => absurd (h.2.2 h0).2.2 (by simpa using hneg))]; rfl
              clear hc
              unfold Amt.v
              go_enter Try.func28, Try.ntmps28
              go_wp2_with (first | (go_at_call 19; refine (implAmountsOk_any ⟨_, _, _⟩ _).mono ?_; rintro e w' ⟨rfl, rfl⟩) | (go_at_call 45; refine (within_any _ _ _ _).mono ?_; rintro e w' ⟨rfl, rfl⟩))
              refine wp_loop_rounds 4 ?_
              rw [rounds_succ]; go_wp2
              rw [rounds_succ]; go_wp2
              rw [rounds_succ]; go_wp2
              exact bodyPost_ret (v := .tuple #[.agg #[.int .i64 0, .int .i64 0, .int .i64 0], .bool false]) (by simp [results, Try.results28, go_sem]) rfl ⟨by rw [HV.out], by repeat (first | (with_reducible exact Below.refl _ _) | (with_reducible refine belowS ?_ _ _ (by omega) _) | (with_reducible refine belowA ?_ _) | (with_reducible refine belowN ?_ _) | (with_reducible refine belowD ?_))⟩
          · have hneg : 1000000000000000 / n < b := by omega
            have HV : Hid (timesV ⟨a, b, c⟩ n = .tuple #[.agg #[.int .i64 0, .int .i64 0, .int .i64 0], .bool false]) := by unfold Hid timesV; rw [if_neg (fun h => absurd (h.2.2 h0).2.1 (by simpa using hneg))]; rfl
            clear hb
            unfold Amt.v
            go_enter Try.func28, Try.ntmps28
            go_wp2_with (first | (go_at_call 19; refine (implAmountsOk_any ⟨_, _, _⟩ _).mono ?_; rintro e w' ⟨rfl, rfl⟩) | (go_at_call 45; refine (within_any _ _ _ _).mono ?_; rintro e w' ⟨rfl, rfl⟩))
            refine wp_loop_rounds 4 ?_
            rw [rounds_succ]; go_wp2
            rw [rounds_succ]; go_wp2
            exact bodyPost_ret (v := .tuple #[.agg #[.int .i64 0, .int .i64 0, .int .i64 0], .bool false]) (by simp [results, Try.results28, go_sem]) rfl ⟨by rw [HV.out], by repeat (first | (with_reducible exact Below.refl _ _) | (with_reducible refine belowS ?_ _ _ (by omega) _) | (with_reducible refine belowA ?_ _) | (with_reducible refine belowN ?_ _) | (with_reducible refine belowD ?_))⟩
        · have hneg : 1000000000000000 / n < a := by omega
          have HV : Hid (timesV ⟨a, b, c⟩ n = .tuple #[.agg #[.int .i64 0, .int .i64 0, .int .i64 0], .bool false]) := by unfold Hid timesV; rw [if_neg (fun h => absurd (h.2.2 h0).1 (by simpa using hneg))]; rfl
          clear ha
          unfold Amt.v
          go_enter Try.func28, Try.ntmps28
          go_wp2_with (first | (go_at_call 19; refine (implAmountsOk_any ⟨_, _, _⟩ _).mono ?_; rintro e w' ⟨rfl, rfl⟩) | (go_at_call 45; refine (within_any _ _ _ _).mono ?_; rintro e w' ⟨rfl, rfl⟩))
          refine wp_loop_rounds 4 ?_
          rw [rounds_succ]; go_wp2
          exact bodyPost_ret (v := .tuple #[.agg #[.int .i64 0, .int .i64 0, .int .i64 0], .bool false]) (by simp [results, Try.results28, go_sem]) rfl ⟨by rw [HV.out], by repeat (first | (with_reducible exact Below.refl _ _) | (with_reducible refine belowS ?_ _ _ (by omega) _) | (with_reducible refine belowA ?_ _) | (with_reducible refine belowN ?_ _) | (with_reducible refine belowD ?_))⟩
      · obtain rfl : n = 0 := by omega
        have HV : Hid (timesV ⟨a, b, c⟩ 0 = .tuple #[.agg #[.int .i64 0, .int .i64 0, .int .i64 0], .bool true]) := by unfold Hid timesV; rw [if_pos ⟨hx, hn, fun h => absurd h (by omega)⟩]; simp [Amt.v]
        clear h0
        unfold Amt.v
        go_enter Try.func28, Try.ntmps28
        go_wp2_with (first | (go_at_call 19; refine (implAmountsOk_any ⟨_, _, _⟩ _).mono ?_; rintro e w' ⟨rfl, rfl⟩) | (go_at_call 45; refine (within_any _ _ _ _).mono ?_; rintro e w' ⟨rfl, rfl⟩))
        refine wp_loop_rounds 4 ?_
        rw [rounds_succ]; go_wp2
        rw [rounds_succ]; go_wp2
        rw [rounds_succ]; go_wp2
        rw [rounds_succ]; go_wp2
        exact bodyPost_ret (v := .tuple #[.agg #[.int .i64 0, .int .i64 0, .int .i64 0], .bool true]) (by simp [results, Try.results28, go_sem]) rfl ⟨by rw [HV.out], by repeat (first | (with_reducible exact Below.refl _ _) | (with_reducible refine belowS ?_ _ _ (by omega) _) | (with_reducible refine belowA ?_ _) | (with_reducible refine belowN ?_ _) | (with_reducible refine belowD ?_))⟩
    · have hn' : inB n 0 1000000 = false := by simpa using hn
      have HV : Hid (timesV ⟨a, b, c⟩ n = .tuple #[.agg #[.int .i64 0, .int .i64 0, .int .i64 0], .bool false]) := by unfold Hid timesV; rw [if_neg (fun h => hn h.2.1)]; rfl
      clear hn
      unfold Amt.v
      go_enter Try.func28, Try.ntmps28
      go_wp2_with (first | (go_at_call 19; refine (implAmountsOk_any ⟨_, _, _⟩ _).mono ?_; rintro e w' ⟨rfl, rfl⟩) | (go_at_call 45; refine (within_any _ _ _ _).mono ?_; rintro e w' ⟨rfl, rfl⟩))
      exact bodyPost_ret (v := .tuple #[.agg #[.int .i64 0, .int .i64 0, .int .i64 0], .bool false]) (by simp [results, Try.results28, go_sem]) rfl ⟨by rw [HV.out], by repeat (first | (with_reducible exact Below.refl _ _) | (with_reducible refine belowS ?_ _ _ (by omega) _) | (with_reducible refine belowA ?_ _) | (with_reducible refine belowN ?_ _) | (with_reducible refine belowD ?_))⟩
  · have hx' : amtOk ⟨a, b, c⟩ = false := by simpa using hx
    have HV : Hid (timesV ⟨a, b, c⟩ n = .tuple #[.agg #[.int .i64 0, .int .i64 0, .int .i64 0], .bool false]) := by unfold Hid timesV; rw [if_neg (fun h => hx h.1)]; rfl
    clear hx
    unfold Amt.v
    go_enter Try.func28, Try.ntmps28
    go_wp2_with (first | (go_at_call 19; refine (implAmountsOk_any ⟨_, _, _⟩ _).mono ?_; rintro e w' ⟨rfl, rfl⟩) | (go_at_call 45; refine (within_any _ _ _ _).mono ?_; rintro e w' ⟨rfl, rfl⟩))
    exact bodyPost_ret (v := .tuple #[.agg #[.int .i64 0, .int .i64 0, .int .i64 0], .bool false]) (by simp [results, Try.results28, go_sem]) rfl ⟨by rw [HV.out], by repeat (first | (with_reducible exact Below.refl _ _) | (with_reducible refine belowS ?_ _ _ (by omega) _) | (with_reducible refine belowA ?_ _) | (with_reducible refine belowN ?_ _) | (with_reducible refine belowD ?_))⟩
end Go.Proofs.Ytbdegifmcppciaa
