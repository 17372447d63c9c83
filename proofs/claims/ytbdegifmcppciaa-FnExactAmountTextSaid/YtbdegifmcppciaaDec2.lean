/-
  AmountText of the reference; the law.
-/
import Derived.Test.YtbdegifmcppciaaDec
import Derived.Test.YtbdegifmcppciaaArgs
namespace Go.Proofs.Ytbdegifmcppciaa
open Go.RowKit
set_option linter.unusedVariables false
set_option linter.unusedSimpArgs false
attribute [local go_sem ↓] Go.wp_at_zero Go.wp_at_succ
set_option maxHeartbeats 1600000 in
theorem specAmountText_any (n : Int) (hn0 : -9223372036854775808 ≤ n ∧ n ≤ 9223372036854775807) (w : World) : Calls Try.prog 22 #[.int .i64 n] w fun e w' => e = .returned (.string (amtText n)) ∧ Below w.heap.size w w' := by
  by_cases h : inB n 0 1000000000000000 = true
  · obtain ⟨h0, h1⟩ := inB_iff.1 h
    have hD := fun (z : Int) (a : 0 ≤ z) (b : z ≤ 1000000000000000) => decT_small (n := z.toNat) (by omega)
    have HD := Lib.hid hD
    clear hD
    by_cases h2 : n % 1000 = 0
    · by_cases h3 : n = 0
      · subst h3
        have HV : Hid (amtText 0 = decT 0) := by unfold Hid; rw [show decT 0 = dg 0 from decT_lt (by decide)]; unfold amtText; simp [dg]
        go_enter Try.func22, Try.ntmps22
        go_wp2_with (go_at_call 44; refine (l1In_any _ _ _ _).mono ?_; rintro e w' ⟨rfl, rfl⟩)
        refine wp_loop_rounds 1 ?_
        rw [rounds_succ]
        go_wp2_with fail
        refine (l3Digits_ok _ (by omega) (by omega) _).mono ?_
        rintro e w' ⟨rfl, hb⟩
        go_wp2
        go_ret
        exact ⟨by rw [HV.out]; rfl, belowT (belowA (belowA (Below.refl _ _) _) _) hb⟩
      · have hm0 : 0 < n / 1000 := by omega
        have hm1 : n / 1000 ≤ 1000000000000 := by omega
        have h2' : (n % 1000 != 0) = false := by simpa using h2
        have h3' : (n == 0) = false := by simpa using h3
        have s1 := HD.out (n / 1000 / 1073741824) (by omega) (by omega)
        have s2 := HD.out (n / 1000 / 1048576) (by omega) (by omega)
        have s3 := HD.out (n / 1000 / 1024) (by omega) (by omega)
        have s4 := HD.out (n / 1000) (by omega) (by omega)
        have alt := amtAlt h0 h1 h2 h3
        clear h2 h3
        have q1 : IntKind.i64.wrap ((n / 1000).tdiv 1073741824) = n / 1000 / 1073741824 := IntWalk.i64_quo _ _ (by omega)
        have q2 : IntKind.i64.wrap ((n / 1000).tdiv 1048576) = n / 1000 / 1048576 := IntWalk.i64_quo _ _ (by omega)
        have q3 : IntKind.i64.wrap ((n / 1000).tdiv 1024) = n / 1000 / 1024 := IntWalk.i64_quo _ _ (by omega)
        have Q1 := Lib.hid q1
        have Q2 := Lib.hid q2
        have Q3 := Lib.hid q3
        clear q1 q2 q3
        rcases alt with ⟨a, HV⟩ | ⟨a, ⟨b, HV⟩ | ⟨b, ⟨c, HV⟩ | ⟨c, HV⟩⟩⟩
        all_goals
          go_enter Try.func22, Try.ntmps22
          go_wp2_with (go_at_call 44; refine (l1In_any _ _ _ _).mono ?_; rintro e w' ⟨rfl, rfl⟩)
          refine wp_loop_rounds 4 ?_
          repeat (rw [rounds_succ]; go_wp2_with fail)
          first
            | (refine (l3Digits_ok _ (by omega) (by omega) _).mono ?_
               rintro e w' ⟨rfl, hb⟩
               go_wp2
               go_ret
               exact ⟨by rw [HV.out]; rfl, belowT (belowA (belowA (Below.refl _ _) _) _) hb⟩)
            | (go_region_with (go_at_call 48; (first | rw [Q1.out] | rw [Q2.out] | rw [Q3.out]); refine (l3Digits_ok _ (by omega) (by omega) _).mono ?_; rintro e w' ⟨rfl, hb⟩; obtain ⟨hc, hf⟩ := bcell hb; have hz := hb.size; (try simp only [World.size_alloc, World.size_drew] at hz))
               all_goals go_wp2
               all_goals go_ret
               all_goals exact ⟨by rw [HV.out]; rfl, belowT (belowD (belowA (belowA (Below.refl _ _) _) _)) hb⟩)
    · have HV : Hid (amtText n = decT n.toNat ++ ⟨#[109]⟩) := by unfold Hid amtText; rw [if_neg (by omega), if_pos h2]
      have hs := HD.out n (by omega) (by omega)
      have h2' : (n % 1000 != 0) = true := by simpa using h2
      clear h2
      go_enter Try.func22, Try.ntmps22
      go_wp2_with (first | (go_at_call 44; refine (l1In_any _ _ _ _).mono ?_; rintro e w' ⟨rfl, rfl⟩))
      refine (l3Digits_ok _ (by omega) (by omega) _).mono ?_
      rintro e w' ⟨rfl, hb⟩
      go_wp2
      go_ret
      exact ⟨by rw [HV.out]; rfl, hb⟩
  · have h' : inB n 0 1000000000000000 = false := by simpa using h
    have HV : Hid (amtText n = ByteArray.empty) := by unfold Hid amtText; rw [if_pos (fun x => h (inB_iff.2 x))]
    clear h
    go_enter Try.func22, Try.ntmps22
    go_wp2_with (go_at_call 44; refine (l1In_any _ _ _ _).mono ?_; rintro e w' ⟨rfl, rfl⟩)
    go_ret
    exact ⟨by rw [HV.out]; rfl, Below.refl _ _⟩
theorem law_AmountText (n : Int) (w : World) (hn0 : -9223372036854775808 ≤ n ∧ n ≤ 9223372036854775807) : Calls Try.prog 7 #[.int .i64 n] w fun e w' => e = .returned (.bool true) ∧ Below w.heap.size w w' := by
  go_enter Try.func7, Try.ntmps7
  go_wp2_with fail
  refine (specAmountText_any n hn0 _).mono ?_
  rintro e w1 ⟨rfl, hb1⟩
  go_wp2_with fail
  refine (implAmountText_any n hn0 _).mono ?_
  rintro e w2 ⟨rfl, hb2⟩
  have b2 := belowT hb1 hb2
  go_wp2
  go_ret
  exact ⟨rfl, b2⟩
end Go.Proofs.Ytbdegifmcppciaa
