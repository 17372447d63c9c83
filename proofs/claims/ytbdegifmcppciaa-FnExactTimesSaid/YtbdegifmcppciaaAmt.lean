/-
  Amounts: three whole numbers by value.
-/
import Derived.Test.YtbdegifmcppciaaName
import Derived.WalkLawsBesides
import Derived.BigRegion
namespace Go.Proofs.Ytbdegifmcppciaa
open Go.RowKit
set_option linter.unusedVariables false
set_option linter.unusedSimpArgs false

structure Amt where
  a : Int
  b : Int
  c : Int
def Amt.v (x : Amt) : Value := .agg #[.int .i64 x.a, .int .i64 x.b, .int .i64 x.c]
def amtOk (x : Amt) : Bool := inB x.a 0 1000000000000000 && inB x.b 0 1000000000000000 && inB x.c 0 1000000000000000
theorem amtOk_iff {x : Amt} : amtOk x = true ↔ (0 ≤ x.a ∧ x.a ≤ 1000000000000000) ∧ (0 ≤ x.b ∧ x.b ≤ 1000000000000000) ∧ (0 ≤ x.c ∧ x.c ≤ 1000000000000000) := by
  simp [amtOk, inB, and_assoc]
theorem toIntA3_any (a b c : Int) (w : World) : Calls Try.prog 46 #[.agg #[.int .i64 a, .int .i64 b, .int .i64 c]] w fun e w' => e = .returned (.agg #[.int .i64 a, .int .i64 b, .int .i64 c]) ∧
    w' = ((w.alloc (.cells #[.int .i64 a, .int .i64 b, .int .i64 c] 24)).alloc (.cells #[.int .i64 a, .int .i64 b, .int .i64 c] 24)).alloc (.cells #[.int .i64 a, .int .i64 b, .int .i64 c] 24) := by
  go_enter Try.func46, Try.ntmps46
  go_wp2
  refine wp_loop_rounds 4 ?_
  rw [rounds_succ]; go_wp2
  rw [rounds_succ]; go_wp2
  rw [rounds_succ]; go_wp2
  rw [rounds_succ]; go_wp2
  exact bodyPost_ret (v := .agg #[.int .i64 a, .int .i64 b, .int .i64 c]) (by simp [results, Try.results46, go_sem]) rfl ⟨rfl, rfl⟩
theorem toAmounts_any (x : Amt) (w : World) : Calls Try.prog 18 #[x.v] w fun e w' => e = .returned x.v ∧ Below w.heap.size w w' := by
  obtain ⟨a, b, c⟩ := x
  unfold Amt.v
  go_enter Try.func18, Try.ntmps18
  go_wp2_with (go_at_call 46; refine (toIntA3_any _ _ _ _).mono ?_; rintro e w' ⟨rfl, rfl⟩)
  refine bodyPost_ret (v := .agg #[.int .i64 a, .int .i64 b, .int .i64 c]) (by simp [results, Try.results18, go_sem]) rfl ⟨rfl, ?_⟩
  repeat (first | exact Below.refl _ _ | refine belowA ?_ _)
theorem specAmountsOk_any (x : Amt) (w : World) : Calls Try.prog 17 #[x.v] w fun e w' => e = .returned (.bool (amtOk x)) ∧ w' = w.alloc (.cells #[.int .i64 x.a, .int .i64 x.b, .int .i64 x.c] 28) := by
  obtain ⟨a, b, c⟩ := x
  unfold Amt.v amtOk
  by_cases h1 : inB a 0 1000000000000000 = true
  · by_cases h2 : inB b 0 1000000000000000 = true
    · go_enter Try.func17, Try.ntmps17
      go_wp2_with (go_at_call 44; refine (l1In_any _ _ _ _).mono ?_; rintro e w' ⟨rfl, rfl⟩)
      go_ret
      exact ⟨by simp [h1, h2], rfl⟩
    · have h2' : inB b 0 1000000000000000 = false := by simpa using h2
      clear h2
      go_enter Try.func17, Try.ntmps17
      go_wp2_with (go_at_call 44; refine (l1In_any _ _ _ _).mono ?_; rintro e w' ⟨rfl, rfl⟩)
      go_ret
      exact ⟨by simp [h1, h2'], rfl⟩
  · have h1' : inB a 0 1000000000000000 = false := by simpa using h1
    clear h1
    go_enter Try.func17, Try.ntmps17
    go_wp2_with (go_at_call 44; refine (l1In_any _ _ _ _).mono ?_; rintro e w' ⟨rfl, rfl⟩)
    go_ret
    exact ⟨by simp [h1'], rfl⟩
theorem isAmount_any (a : Int) (w : World) : Calls Try.prog 47 #[.int .i64 a] w fun e w' => e = .returned (.bool (inB a 0 1000000000000000)) ∧ w = w' := by
  go_enter Try.func47, Try.ntmps47
  go_wp2_with (go_at_call 45; refine (within_any _ _ _ _).mono ?_; rintro e w' ⟨rfl, rfl⟩)
  go_ret
  exact ⟨rfl, rfl⟩
theorem implAmountsOk_any (x : Amt) (w : World) : Calls Try.prog 19 #[x.v] w fun e w' => e = .returned (.bool (amtOk x)) ∧ w' = w.alloc (.cells #[.int .i64 x.a, .int .i64 x.b, .int .i64 x.c] 28) := by
  obtain ⟨a, b, c⟩ := x
  unfold Amt.v amtOk
  by_cases h1 : inB a 0 1000000000000000 = true
  · by_cases h2 : inB b 0 1000000000000000 = true
    · go_enter Try.func19, Try.ntmps19
      go_wp2_with (go_at_call 47; refine (isAmount_any _ _).mono ?_; rintro e w' ⟨rfl, rfl⟩)
      go_ret
      exact ⟨by simp [h1, h2], rfl⟩
    · have h2' : inB b 0 1000000000000000 = false := by simpa using h2
      clear h2
      go_enter Try.func19, Try.ntmps19
      go_wp2_with (go_at_call 47; refine (isAmount_any _ _).mono ?_; rintro e w' ⟨rfl, rfl⟩)
      go_ret
      exact ⟨by simp [h1, h2'], rfl⟩
  · have h1' : inB a 0 1000000000000000 = false := by simpa using h1
    clear h1
    go_enter Try.func19, Try.ntmps19
    go_wp2_with (go_at_call 47; refine (isAmount_any _ _).mono ?_; rintro e w' ⟨rfl, rfl⟩)
    go_ret
    exact ⟨by simp [h1'], rfl⟩
theorem eqIntA3_same (a b c : Int) (w : World) : Calls Try.prog 50 #[.agg #[.int .i64 a, .int .i64 b, .int .i64 c], .agg #[.int .i64 a, .int .i64 b, .int .i64 c]] w fun e w' => e = .returned (.bool true) ∧ Below w.heap.size w w' := by
  go_enter Try.func50, Try.ntmps50
  go_wp2
  refine wp_loop_rounds 4 ?_
  rw [rounds_succ]; go_wp2; go_quiet (fail); go_wp2
  rw [rounds_succ]; go_wp2; go_quiet (fail); go_wp2
  rw [rounds_succ]; go_wp2; go_quiet (fail); go_wp2
  rw [rounds_succ]; go_wp2
  go_ret
  exact ⟨rfl, by repeat (first | exact belowA (belowA (Below.refl _ _) _) _ | refine belowN ?_ _ | refine belowD ?_)⟩
theorem eqAmounts_same (x : Amt) (w : World) : Calls Try.prog 26 #[x.v, x.v] w fun e w' => e = .returned (.bool true) ∧ Below w.heap.size w w' := by
  obtain ⟨a, b, c⟩ := x
  unfold Amt.v
  go_enter Try.func26, Try.ntmps26
  go_wp2_with (go_at_call 50; refine (eqIntA3_same _ _ _ _).mono ?_; rintro e w' ⟨rfl, hb⟩)
  go_ret
  exact ⟨rfl, belowT (belowA (belowA (Below.refl _ _) _) _) hb⟩
def amtZero : Amt := ⟨0, 0, 0⟩
noncomputable def addV (x y : Amt) : Value := if amtOk x = true ∧ amtOk y = true ∧ amtOk ⟨x.a + y.a, x.b + y.b, x.c + y.c⟩ = true then .tuple #[Amt.v ⟨x.a + y.a, x.b + y.b, x.c + y.c⟩, .bool true] else .tuple #[amtZero.v, .bool false]
set_option maxHeartbeats 800000 in
theorem specAddAmounts_any (x y : Amt) (w : World) : Calls Try.prog 24 #[x.v, y.v] w fun e w' => e = .returned (addV x y) ∧ Below w.heap.size w w' := by
  obtain ⟨a, b, c⟩ := x
  obtain ⟨p, q, r⟩ := y
  by_cases hx : amtOk ⟨a, b, c⟩ = true
  · by_cases hy : amtOk ⟨p, q, r⟩ = true
    · obtain ⟨⟨a1, a2⟩, ⟨b1, b2⟩, c1, c2⟩ := amtOk_iff.1 hx
      obtain ⟨⟨p1, p2⟩, ⟨q1, q2⟩, r1, r2⟩ := amtOk_iff.1 hy
      dsimp only at a1 a2 b1 b2 c1 c2 p1 p2 q1 q2 r1 r2
      by_cases hs : amtOk ⟨a + p, b + q, c + r⟩ = true
      · have HV : Hid (addV ⟨a, b, c⟩ ⟨p, q, r⟩ = .tuple #[.agg #[.int .i64 (a + p), .int .i64 (b + q), .int .i64 (c + r)], .bool true]) := by unfold Hid addV; rw [if_pos ⟨hx, hy, hs⟩]; rfl
        unfold Amt.v
        go_enter Try.func24, Try.ntmps24
        go_wp2_with (go_at_call 17; refine (specAmountsOk_any ⟨_, _, _⟩ _).mono ?_; rintro e w' ⟨rfl, rfl⟩)
        exact bodyPost_ret (v := .tuple #[.agg #[.int .i64 (a + p), .int .i64 (b + q), .int .i64 (c + r)], .bool true]) (by simp [results, Try.results24, go_sem]) rfl ⟨by rw [HV.out], by repeat (first | (with_reducible exact Below.refl _ _) | (with_reducible refine belowS ?_ _ _ (by omega) _) | (with_reducible refine belowA ?_ _) | (with_reducible refine belowN ?_ _) | (with_reducible refine belowD ?_))⟩
      · have hs' : amtOk ⟨a + p, b + q, c + r⟩ = false := by simpa using hs
        have HV : Hid (addV ⟨a, b, c⟩ ⟨p, q, r⟩ = .tuple #[.agg #[.int .i64 0, .int .i64 0, .int .i64 0], .bool false]) := by unfold Hid addV; rw [if_neg (fun h => hs h.2.2)]; rfl
        clear hs
        unfold Amt.v
        go_enter Try.func24, Try.ntmps24
        go_wp2_with (go_at_call 17; refine (specAmountsOk_any ⟨_, _, _⟩ _).mono ?_; rintro e w' ⟨rfl, rfl⟩)
        exact bodyPost_ret (v := .tuple #[.agg #[.int .i64 0, .int .i64 0, .int .i64 0], .bool false]) (by simp [results, Try.results24, go_sem]) rfl ⟨by rw [HV.out], by repeat (first | (with_reducible exact Below.refl _ _) | (with_reducible refine belowS ?_ _ _ (by omega) _) | (with_reducible refine belowA ?_ _) | (with_reducible refine belowN ?_ _) | (with_reducible refine belowD ?_))⟩
    · have hy' : amtOk ⟨p, q, r⟩ = false := by simpa using hy
      have HV : Hid (addV ⟨a, b, c⟩ ⟨p, q, r⟩ = .tuple #[.agg #[.int .i64 0, .int .i64 0, .int .i64 0], .bool false]) := by unfold Hid addV; rw [if_neg (fun h => hy h.2.1)]; rfl
      clear hy
      unfold Amt.v
      go_enter Try.func24, Try.ntmps24
      go_wp2_with (go_at_call 17; refine (specAmountsOk_any ⟨_, _, _⟩ _).mono ?_; rintro e w' ⟨rfl, rfl⟩)
      exact bodyPost_ret (v := .tuple #[.agg #[.int .i64 0, .int .i64 0, .int .i64 0], .bool false]) (by simp [results, Try.results24, go_sem]) rfl ⟨by rw [HV.out], by repeat (first | (with_reducible exact Below.refl _ _) | (with_reducible refine belowS ?_ _ _ (by omega) _) | (with_reducible refine belowA ?_ _) | (with_reducible refine belowN ?_ _) | (with_reducible refine belowD ?_))⟩
  · have hx' : amtOk ⟨a, b, c⟩ = false := by simpa using hx
    have HV : Hid (addV ⟨a, b, c⟩ ⟨p, q, r⟩ = .tuple #[.agg #[.int .i64 0, .int .i64 0, .int .i64 0], .bool false]) := by unfold Hid addV; rw [if_neg (fun h => hx h.1)]; rfl
    clear hx
    unfold Amt.v
    go_enter Try.func24, Try.ntmps24
    go_wp2_with (go_at_call 17; refine (specAmountsOk_any ⟨_, _, _⟩ _).mono ?_; rintro e w' ⟨rfl, rfl⟩)
    exact bodyPost_ret (v := .tuple #[.agg #[.int .i64 0, .int .i64 0, .int .i64 0], .bool false]) (by simp [results, Try.results24, go_sem]) rfl ⟨by rw [HV.out], by repeat (first | (with_reducible exact Below.refl _ _) | (with_reducible refine belowS ?_ _ _ (by omega) _) | (with_reducible refine belowA ?_ _) | (with_reducible refine belowN ?_ _) | (with_reducible refine belowD ?_))⟩
set_option maxHeartbeats 800000 in
theorem implAddAmounts_any (x y : Amt) (w : World) : Calls Try.prog 25 #[x.v, y.v] w fun e w' => e = .returned (addV x y) ∧ Below w.heap.size w w' := by
  obtain ⟨a, b, c⟩ := x
  obtain ⟨p, q, r⟩ := y
  by_cases hx : amtOk ⟨a, b, c⟩ = true
  · by_cases hy : amtOk ⟨p, q, r⟩ = true
    · obtain ⟨⟨a1, a2⟩, ⟨b1, b2⟩, c1, c2⟩ := amtOk_iff.1 hx
      obtain ⟨⟨p1, p2⟩, ⟨q1, q2⟩, r1, r2⟩ := amtOk_iff.1 hy
      dsimp only at a1 a2 b1 b2 c1 c2 p1 p2 q1 q2 r1 r2
      by_cases hs : amtOk ⟨a + p, b + q, c + r⟩ = true
      · have HV : Hid (addV ⟨a, b, c⟩ ⟨p, q, r⟩ = .tuple #[.agg #[.int .i64 (a + p), .int .i64 (b + q), .int .i64 (c + r)], .bool true]) := by unfold Hid addV; rw [if_pos ⟨hx, hy, hs⟩]; rfl
        unfold Amt.v
        go_enter Try.func25, Try.ntmps25
        go_wp2_with (go_at_call 19; refine (implAmountsOk_any ⟨_, _, _⟩ _).mono ?_; rintro e w' ⟨rfl, rfl⟩)
        refine wp_loop_rounds 4 ?_
        rw [rounds_succ]; go_wp2; go_region; go_wp2
        rw [rounds_succ]; go_wp2; go_region; go_wp2
        rw [rounds_succ]; go_wp2; go_region; go_wp2
        rw [rounds_succ]
        go_wp2_with (go_at_call 19; refine (implAmountsOk_any ⟨_, _, _⟩ _).mono ?_; rintro e w' ⟨rfl, rfl⟩)
        exact bodyPost_ret (v := .tuple #[.agg #[.int .i64 (a + p), .int .i64 (b + q), .int .i64 (c + r)], .bool true]) (by simp [results, Try.results25, go_sem]) rfl ⟨by rw [HV.out], by repeat (first | (with_reducible exact Below.refl _ _) | (with_reducible refine belowS ?_ _ _ (by omega) _) | (with_reducible refine belowA ?_ _) | (with_reducible refine belowN ?_ _) | (with_reducible refine belowD ?_))⟩
      · have hs' : amtOk ⟨a + p, b + q, c + r⟩ = false := by simpa using hs
        have HV : Hid (addV ⟨a, b, c⟩ ⟨p, q, r⟩ = .tuple #[.agg #[.int .i64 0, .int .i64 0, .int .i64 0], .bool false]) := by unfold Hid addV; rw [if_neg (fun h => hs h.2.2)]; rfl
        clear hs
        unfold Amt.v
        go_enter Try.func25, Try.ntmps25
        go_wp2_with (go_at_call 19; refine (implAmountsOk_any ⟨_, _, _⟩ _).mono ?_; rintro e w' ⟨rfl, rfl⟩)
        refine wp_loop_rounds 4 ?_
        rw [rounds_succ]; go_wp2; go_region; go_wp2
        rw [rounds_succ]; go_wp2; go_region; go_wp2
        rw [rounds_succ]; go_wp2; go_region; go_wp2
        rw [rounds_succ]
        go_wp2_with (go_at_call 19; refine (implAmountsOk_any ⟨_, _, _⟩ _).mono ?_; rintro e w' ⟨rfl, rfl⟩)
        exact bodyPost_ret (v := .tuple #[.agg #[.int .i64 0, .int .i64 0, .int .i64 0], .bool false]) (by simp [results, Try.results25, go_sem]) rfl ⟨by rw [HV.out], by repeat (first | (with_reducible exact Below.refl _ _) | (with_reducible refine belowS ?_ _ _ (by omega) _) | (with_reducible refine belowA ?_ _) | (with_reducible refine belowN ?_ _) | (with_reducible refine belowD ?_))⟩
    · have hy' : amtOk ⟨p, q, r⟩ = false := by simpa using hy
      have HV : Hid (addV ⟨a, b, c⟩ ⟨p, q, r⟩ = .tuple #[.agg #[.int .i64 0, .int .i64 0, .int .i64 0], .bool false]) := by unfold Hid addV; rw [if_neg (fun h => hy h.2.1)]; rfl
      clear hy
      unfold Amt.v
      go_enter Try.func25, Try.ntmps25
      go_wp2_with (go_at_call 19; refine (implAmountsOk_any ⟨_, _, _⟩ _).mono ?_; rintro e w' ⟨rfl, rfl⟩)
      exact bodyPost_ret (v := .tuple #[.agg #[.int .i64 0, .int .i64 0, .int .i64 0], .bool false]) (by simp [results, Try.results25, go_sem]) rfl ⟨by rw [HV.out], by repeat (first | (with_reducible exact Below.refl _ _) | (with_reducible refine belowS ?_ _ _ (by omega) _) | (with_reducible refine belowA ?_ _) | (with_reducible refine belowN ?_ _) | (with_reducible refine belowD ?_))⟩
  · have hx' : amtOk ⟨a, b, c⟩ = false := by simpa using hx
    have HV : Hid (addV ⟨a, b, c⟩ ⟨p, q, r⟩ = .tuple #[.agg #[.int .i64 0, .int .i64 0, .int .i64 0], .bool false]) := by unfold Hid addV; rw [if_neg (fun h => hx h.1)]; rfl
    clear hx
    unfold Amt.v
    go_enter Try.func25, Try.ntmps25
    go_wp2_with (go_at_call 19; refine (implAmountsOk_any ⟨_, _, _⟩ _).mono ?_; rintro e w' ⟨rfl, rfl⟩)
    exact bodyPost_ret (v := .tuple #[.agg #[.int .i64 0, .int .i64 0, .int .i64 0], .bool false]) (by simp [results, Try.results25, go_sem]) rfl ⟨by rw [HV.out], by repeat (first | (with_reducible exact Below.refl _ _) | (with_reducible refine belowS ?_ _ _ (by omega) _) | (with_reducible refine belowA ?_ _) | (with_reducible refine belowN ?_ _) | (with_reducible refine belowD ?_))⟩
end Go.Proofs.Ytbdegifmcppciaa
