/-
  Decimal numbers as text: of the program and of the reference.
-/
import Derived.Test.YtbdegifmcppciaaAmt
namespace Go.Proofs.Ytbdegifmcppciaa
open Go.RowKit
set_option linter.unusedVariables false
set_option linter.unusedSimpArgs false
attribute [local go_sem ↓] Go.wp_at_zero Go.wp_at_succ
def dg (d : Nat) : ByteArray := ⟨#[UInt8.ofNat (48 + d)]⟩
def decT (n : Nat) : ByteArray := if n < 10 then dg n else decT (n / 10) ++ dg (n % 10)
theorem dg_size (d : Nat) : (dg d).size = 1 := rfl
theorem decT_size : ∀ (k n : Nat), n < 10 ^ k → (decT n).size ≤ k + 1
  | 0, n, h => by
    have : n = 0 := by simpa using h
    subst this; rw [decT]; simp [dg_size]
  | k + 1, n, h => by
    rw [decT]
    split
    · rw [dg_size]; omega
    · have := decT_size k (n / 10) (by rw [Nat.pow_succ] at h; omega)
      rw [ByteArray.size_append, dg_size]; omega
theorem decT_lt {n : Nat} (h : n < 10) : decT n = dg n := by rw [decT, if_pos h]
theorem decT_ge {n : Nat} (h : ¬ n < 10) : decT n = decT (n / 10) ++ dg (n % 10) := by rw [decT, if_neg h]
theorem decT_small {n : Nat} (h : n ≤ 1000000000000000) : (decT n).size ≤ 17 := decT_size 16 n (Nat.lt_of_le_of_lt h (by decide))
theorem enc_dg {d : Nat} (h : d < 10) : Utf8.encode (48 + (d : Int)) = dg d := by
  match d, h with
  | 0, _ => decide +kernel
  | 1, _ => decide +kernel
  | 2, _ => decide +kernel
  | 3, _ => decide +kernel
  | 4, _ => decide +kernel
  | 5, _ => decide +kernel
  | 6, _ => decide +kernel
  | 7, _ => decide +kernel
  | 8, _ => decide +kernel
  | 9, _ => decide +kernel
theorem enc_dz {z : Int} (h : 0 ≤ z ∧ z < 10) : Utf8.encode (48 + z) = dg z.toNat := by
  have e : z = (z.toNat : Int) := by omega
  rw [e]
  exact enc_dg (by omega)
theorem decZ_lt {z : Int} (h : z < 10) : decT z.toNat = dg z.toNat := decT_lt (by omega)
theorem decZ_ge {z : Int} (h : 10 ≤ z) : decT z.toNat = decT (z / 10).toNat ++ dg (z % 10).toNat := by
  rw [decT_ge (by omega), show (z / 10).toNat = z.toNat / 10 by omega, show (z % 10).toNat = z.toNat % 10 by omega]
theorem decimal_any : ∀ (m : Nat) (z : Int), 0 ≤ z → z ≤ m → z ≤ 1000000000000000 → ∀ w : World, Calls Try.prog 49 #[.int .i64 z] w fun e w' => e = .returned (.string (decT z.toNat)) ∧ w = w' := by
  intro m
  induction m with
  | zero =>
    intro z h0 hm hn w
    have hlt : z < 10 := by omega
    go_enter Try.func49, Try.ntmps49
    go_wp2
    go_ret
    exact ⟨by rw [decZ_lt (by omega), ← enc_dz (by omega)]; rfl, rfl⟩
  | succ m ih =>
    intro z h0 hm hn w
    by_cases hlt : z < 10
    · go_enter Try.func49, Try.ntmps49
      go_wp2
      go_ret
      exact ⟨by rw [decZ_lt (by omega), ← enc_dz (by omega)]; rfl, rfl⟩
    · have HI := Lib.hid (ih (z / 10) (by omega) (by omega) (by omega) w)
      have hsz := decT_small (n := (z / 10).toNat) (by omega)
      have HS := Lib.hid hsz
      clear ih hsz
      go_enter Try.func49, Try.ntmps49
      go_wp2_with fail
      refine HI.out.mono ?_
      rintro e w' ⟨rfl, rfl⟩
      have hsz := HS.out
      have hsum : (decT (z / 10).toNat).size + (Utf8.encode (48 + z % 10)).size ≤ 9223372036854775807 := by rw [enc_dz (by omega), dg_size]; omega
      go_wp2
      go_ret
      exact ⟨by rw [decZ_ge (z := z) (by omega), ← enc_dz (z := z % 10) (by omega)]; rfl, rfl⟩
theorem str1_dz {z : Int} (h : 0 ≤ z ∧ z < 10) : strOfNums [48 + z] = dg z.toNat := by
  unfold strOfNums dg
  simp only [List.map]
  rw [show (48 + z).toNat = 48 + z.toNat by omega]
theorem conv1 (x : Int) (W : World) (b : Nat) (h : W.cell? ⟨b, 0, none⟩ = some (.int .u8 x)) : (convert 55 9 (.slice (some ⟨b, 0, none⟩) 1 1)).run Try.prog W = .ok (.string (strOfNums [x])) W :=
  run_convert_bytes_arg W 55 5 Try.underlying55 Try.underlying5 b 0 1 1 [x] rfl (fun i hi => by obtain rfl : i = 0 := (by omega); exact h) 9 Try.underlying9
theorem l3Digits_lt (z : Int) (h0 : 0 ≤ z) (hlt : z < 10) (w : World) : Calls Try.prog 48 #[.int .i64 z] w fun e w' => e = .returned (.string (decT z.toNat)) ∧ Below w.heap.size w w' := by
  have hcv := conv1 (48 + z) (w.alloc (.cells #[.int .u8 (48 + z)] 5)) w.heap.size (by simp)
  go_enter Try.func48, Try.ntmps48
  go_wp2
  go_ret
  exact ⟨by rw [decZ_lt (by omega), ← str1_dz (by omega)]; rfl, belowA (Below.refl _ _) _⟩
set_option maxHeartbeats 1600000 in
theorem l3Digits_any : ∀ (m : Nat) (z : Int), 0 ≤ z → z ≤ m → z ≤ 1000000000000000 → ∀ w : World, Calls Try.prog 48 #[.int .i64 z] w fun e w' => e = .returned (.string (decT z.toNat)) ∧ Below w.heap.size w w' := by
  intro m
  induction m with
  | zero => exact fun z h0 hm hn w => l3Digits_lt z h0 (by omega) w
  | succ m ih =>
    intro z h0 hm hn w
    by_cases hlt : z < 10
    · exact l3Digits_lt z h0 hlt w
    · have HI := Lib.hid (fun w => ih (z / 10) (by omega) (by omega) (by omega) w)
      have hsz := decT_small (n := (z / 10).toNat) (by omega)
      have hcv := fun (W : World) (b : Nat) => conv1 (IntKind.u8.wrap (IntKind.i64.wrap (48 + z.tmod 10))) W b
      have hq : IntKind.i64.wrap (z.tdiv 10) = z / 10 := IntWalk.i64_quo z 10 (by omega)
      have hx : IntKind.u8.wrap (IntKind.i64.wrap (48 + z.tmod 10)) = 48 + z % 10 := by
        rw [Int.tmod_eq_emod_of_nonneg h0, IntWalk.i64_in _ (by omega), IntWalk.u8_in _ (by omega)]
      have HQ := Lib.hid hq
      have HX := Lib.hid hx
      have hs1 : (strOfNums [IntKind.u8.wrap (IntKind.i64.wrap (48 + z.tmod 10))]).size = 1 := rfl
      have hsum : (decT (z / 10).toNat).size + 1 ≤ 9223372036854775807 := by omega
      clear ih hq hx
      go_enter Try.func48, Try.ntmps48
      go_wp2_with fail
      go_region_with (go_at_call 48; rw [HQ.out]; refine (HI.out _).mono ?_; rintro e w' ⟨rfl, hb⟩; obtain ⟨hc, hf⟩ := bcell hb; have hz := hb.size; (try simp only [World.size_alloc, World.size_drew] at hz))
      all_goals go_wp2
      all_goals go_ret
      all_goals refine ⟨by rw [decZ_ge (z := z) (by omega), ← str1_dz (z := z % 10) (by omega)]; rfl, ?_⟩
      all_goals first
        | exact belowA (belowDT (Below.refl _ _) hb) _
        | exact belowT (belowD (belowA (Below.refl _ _) _)) hb
theorem decimal_ok (z : Int) (h0 : 0 ≤ z) (hn : z ≤ 1000000000000000) (w : World) : Calls Try.prog 49 #[.int .i64 z] w fun e w' => e = .returned (.string (decT z.toNat)) ∧ w = w' := decimal_any z.toNat z h0 (by omega) hn w
theorem l3Digits_ok (z : Int) (h0 : 0 ≤ z) (hn : z ≤ 1000000000000000) (w : World) : Calls Try.prog 48 #[.int .i64 z] w fun e w' => e = .returned (.string (decT z.toNat)) ∧ Below w.heap.size w w' := l3Digits_any z.toNat z h0 (by omega) hn w
def amtText (n : Int) : ByteArray :=
  if ¬ (0 ≤ n ∧ n ≤ 1000000000000000) then ByteArray.empty
  else if n % 1000 ≠ 0 then decT n.toNat ++ ⟨#[109]⟩
  else if n = 0 then ⟨#[48]⟩
  else if n / 1000 % 1073741824 = 0 then decT (n / 1000 / 1073741824).toNat ++ ⟨#[71, 105]⟩
  else if n / 1000 % 1048576 = 0 then decT (n / 1000 / 1048576).toNat ++ ⟨#[77, 105]⟩
  else if n / 1000 % 1024 = 0 then decT (n / 1000 / 1024).toNat ++ ⟨#[75, 105]⟩
  else decT (n / 1000).toNat
theorem amtAlt {n : Int} (h0 : 0 ≤ n) (h1 : n ≤ 1000000000000000) (h2 : n % 1000 = 0) (h3 : ¬ n = 0) :
    ((n / 1000 % 1073741824 == 0) = true ∧ Hid (amtText n = decT (n / 1000 / 1073741824).toNat ++ ⟨#[71, 105]⟩)) ∨ (n / 1000 % 1073741824 == 0) = false ∧ (((n / 1000 % 1048576 == 0) = true ∧ Hid (amtText n = decT (n / 1000 / 1048576).toNat ++ ⟨#[77, 105]⟩)) ∨ (n / 1000 % 1048576 == 0) = false ∧ (((n / 1000 % 1024 == 0) = true ∧ Hid (amtText n = decT (n / 1000 / 1024).toNat ++ ⟨#[75, 105]⟩)) ∨ (n / 1000 % 1024 == 0) = false ∧ Hid (amtText n = decT (n / 1000).toNat))) := by
  have HM : Hid (amtText n = if n / 1000 % 1073741824 = 0 then decT (n / 1000 / 1073741824).toNat ++ ⟨#[71, 105]⟩
      else if n / 1000 % 1048576 = 0 then decT (n / 1000 / 1048576).toNat ++ ⟨#[77, 105]⟩
      else if n / 1000 % 1024 = 0 then decT (n / 1000 / 1024).toNat ++ ⟨#[75, 105]⟩
      else decT (n / 1000).toNat) := by unfold Hid; rw [amtText, if_neg (by omega), if_neg (by omega), if_neg h3]
  unfold Hid
  rw [HM.out]
  by_cases a : n / 1000 % 1073741824 = 0
  · exact .inl ⟨by simpa using a, by rw [if_pos a]⟩
  · refine .inr ⟨by simpa using a, ?_⟩
    rw [if_neg a]
    by_cases b : n / 1000 % 1048576 = 0
    · exact .inl ⟨by simpa using b, by rw [if_pos b]⟩
    · refine .inr ⟨by simpa using b, ?_⟩
      rw [if_neg b]
      by_cases c : n / 1000 % 1024 = 0
      · exact .inl ⟨by simpa using c, by rw [if_pos c]⟩
      · exact .inr ⟨by simpa using c, by rw [if_neg c]⟩
theorem implAmountText_any (n : Int) (hn0 : -9223372036854775808 ≤ n ∧ n ≤ 9223372036854775807) (w : World) : Calls Try.prog 23 #[.int .i64 n] w fun e w' => e = .returned (.string (amtText n)) ∧ Below w.heap.size w w' := by
  by_cases h : inB n 0 1000000000000000 = true
  · obtain ⟨h0, h1⟩ := inB_iff.1 h
    have hD := fun (z : Int) (a : 0 ≤ z) (b : z ≤ 1000000000000000) => decT_small (n := z.toNat) (by omega)
    have HD := Lib.hid hD
    clear hD
    by_cases h2 : n % 1000 = 0
    · by_cases h3 : n = 0
      · subst h3
        have HV : Hid (amtText 0 = ⟨#[48]⟩) := by unfold Hid amtText; simp
        go_enter Try.func23, Try.ntmps23
        go_wp2_with (go_at_call 47; refine (isAmount_any _ _).mono ?_; rintro e w' ⟨rfl, rfl⟩)
        go_ret
        exact ⟨by rw [HV.out]; rfl, Below.refl _ _⟩
      · have hm0 : 0 < n / 1000 := by omega
        have hm1 : n / 1000 ≤ 1000000000000 := by omega
        have h2' : (n % 1000 != 0) = false := by simpa using h2
        have h3' : (n == 0) = false := by simpa using h3
        have s1 := HD.out (n / 1000 / 1073741824) (by omega) (by omega)
        have s2 := HD.out (n / 1000 / 1048576) (by omega) (by omega)
        have s3 := HD.out (n / 1000 / 1024) (by omega) (by omega)
        have s4 := HD.out (n / 1000) (by omega) (by omega)
        have alt := amtAlt h0 h1 h2 h3
        clear h2 h3
        rcases alt with ⟨a, HV⟩ | ⟨a, ⟨b, HV⟩ | ⟨b, ⟨c, HV⟩ | ⟨c, HV⟩⟩⟩
        all_goals
          go_enter Try.func23, Try.ntmps23
          go_wp2_with (go_at_call 47; refine (isAmount_any _ _).mono ?_; rintro e w' ⟨rfl, rfl⟩)
          refine wp_loop_rounds 4 ?_
          repeat (rw [rounds_succ]; go_wp2_with (first | (go_at_call 49; refine (decimal_ok _ (by omega) (by omega) _).mono ?_; rintro e w' ⟨rfl, rfl⟩)))
          go_ret
          exact ⟨by rw [HV.out]; rfl, belowA (Below.refl _ _) _⟩
    · have HV : Hid (amtText n = decT n.toNat ++ ⟨#[109]⟩) := by unfold Hid amtText; rw [if_neg (by omega), if_pos h2]
      have hs := HD.out n (by omega) (by omega)
      have h2' : (n % 1000 != 0) = true := by simpa using h2
      clear h2
      go_enter Try.func23, Try.ntmps23
      go_wp2_with (first | (go_at_call 47; refine (isAmount_any _ _).mono ?_; rintro e w' ⟨rfl, rfl⟩) | (go_at_call 49; refine (decimal_ok _ (by omega) (by omega) _).mono ?_; rintro e w' ⟨rfl, rfl⟩))
      go_ret
      exact ⟨by rw [HV.out]; rfl, Below.refl _ _⟩
  · have h' : inB n 0 1000000000000000 = false := by simpa using h
    have HV : Hid (amtText n = ByteArray.empty) := by unfold Hid amtText; rw [if_pos (fun x => h (inB_iff.2 x))]
    clear h
    go_enter Try.func23, Try.ntmps23
    go_wp2_with (go_at_call 47; refine (isAmount_any _ _).mono ?_; rintro e w' ⟨rfl, rfl⟩)
    go_ret
    exact ⟨by rw [HV.out]; rfl, Below.refl _ _⟩
end Go.Proofs.Ytbdegifmcppciaa
