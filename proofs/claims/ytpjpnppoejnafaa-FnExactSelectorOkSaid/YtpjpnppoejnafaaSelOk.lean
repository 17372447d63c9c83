/-
  SelectorOk: of the program and of the reference.
-/
import Derived.Test.YtpjpnppoejnafaaLabOk
import Derived.Test.YtpjpnppoejnafaaTermFam
namespace Go.Proofs.Ytpjpnppoejnafaa
open Go.RowKit
set_option linter.unusedVariables false
set_option linter.unusedSimpArgs false
attribute [local go_sem ↓] Go.wp_at_zero Go.wp_at_succ

def valAt (xs : List ByteArray) (k : Nat) : Bool :=
  if h : k < xs.length then nameOk xs[k] && (if 0 < k then strLt (xs[k - 1]'(by omega)) xs[k] else true) else true
def namesB (xs : List ByteArray) : Bool := allFrom (valAt xs) xs.length 0
theorem valAt_bad {xs : List ByteArray} {k d : Nat} (HE : allFrom (valAt xs) xs.length 0 = allFrom (valAt xs) d k) (HST : allFrom (valAt xs) d k = (valAt xs k && allFrom (valAt xs) (d - 1) (k + 1))) (h : valAt xs k = false) : namesB xs = false := by
  unfold namesB; rw [HE, HST, h]; rfl
theorem valAt_good {xs : List ByteArray} {k d : Nat} (HE : allFrom (valAt xs) xs.length 0 = allFrom (valAt xs) d k) (HST : allFrom (valAt xs) d k = (valAt xs k && allFrom (valAt xs) (d - 1) (k + 1))) (h : valAt xs k = true) :
    allFrom (valAt xs) xs.length 0 = allFrom (valAt xs) (d - 1) (k + 1) := by rw [HE, HST, h]; rfl
theorem valAt_name {xs : List ByteArray} {k : Nat} (h : k < xs.length) (hb : nameOk xs[k] = false) : valAt xs k = false := by unfold valAt; rw [dif_pos h, hb]; rfl
theorem valAt_zero {xs : List ByteArray} (h : 0 < xs.length) (hb : nameOk xs[0] = true) : valAt xs 0 = true := by unfold valAt; rw [dif_pos h, hb]; rfl
theorem valAt_succ {xs : List ByteArray} {j : Nat} (h : j + 1 < xs.length) (hb : nameOk xs[j + 1] = true) : valAt xs (j + 1) = Op.bytesLess xs[j].toList xs[j + 1].toList := by unfold valAt; rw [dif_pos h, hb]; rfl
theorem namesOk_any (xs : List ByteArray) (v : Value) (o : Bool) (F : List Nat) (w : World) (hr : rd o w (strD xs) [v] F) :
    Calls Try.prog 84 #[v, .int .i64 6] w fun e w' => e = .returned (.bool (namesB xs && decide (xs.length ≤ 6))) ∧ w = w' := by
  obtain ⟨A, c, rfl, hn, hc, hx⟩ := rd_Strs hr
  have HX := Lib.hid hx
  clear hx hr
  go_enter Try.func84, Try.ntmps84
  go_wp2
  go_loop [5, 6, 9] (fun _ _ i => ∃ k d : Nat, k ≤ xs.length ∧ i = .int .i64 k ∧ k + d = xs.length ∧ Hid (allFrom (valAt xs) xs.length 0 = allFrom (valAt xs) d k)) (fun _ _ i => xs.length - (intOf i).toNat)
  case atStart => exact ⟨0, xs.length, by omega, rfl, by omega, rfl⟩
  case round =>
    obtain ⟨k, d, hk, rfl, hd, HE⟩ := hrel
    by_cases hlt : k < xs.length
    · obtain ⟨b, off, rfl, hbl, d0, k0⟩ := HX.out k hlt
      have HST := Lib.hid (allFrom_step (valAt xs) hd hlt)
      by_cases hnk : nameOk xs[k] = true
      · by_cases h0 : 0 < k
        · obtain ⟨j, rfl⟩ : ∃ j, k = j + 1 := ⟨k - 1, by omega⟩
          obtain ⟨b', off', he, _, q0, _⟩ := HX.out j (by omega)
          cases he
          have i4 : (0 : Int) ≤ (j : Int) + 1 := by omega
          have i5 : (j : Int) + 1 < (xs.length : Int) := by omega
          have i6 : (0 : Int) < (j : Int) + 1 := by omega
          have i7 : (0 : Int) ≤ (j : Int) := by omega
          have i8 : (j : Int) < (xs.length : Int) := by omega
          have i9 : decide ((0 : Int) < (j : Int) + 1) = true := by simp
          have iw : IntKind.i64.wrap (j : Int) = (j : Int) := IntWalk.i64_in _ (by omega)
          have HS := Lib.hid (valAt_succ hlt hnk)
          by_cases hl : Op.bytesLess xs[j].toList xs[j + 1].toList = true
          · go_wp2_with (go_at_call 51; refine (implNameOk_any _ _ (by assumption)).mono ?_; rintro e w' ⟨rfl, rfl⟩)
            go_round
            case rel => exact ⟨j + 1 + 1, d - 1, by omega, by go_num, by omega, valAt_good HE.out HST.out (HS.out.trans hl)⟩
            case measure => simp [intOf]; omega
          · have hl' : Op.bytesLess xs[j].toList xs[j + 1].toList = false := by simpa using hl
            clear hl
            go_wp2_with (go_at_call 51; refine (implNameOk_any _ _ (by assumption)).mono ?_; rintro e w' ⟨rfl, rfl⟩)
            go_ret
            exact ⟨by rw [valAt_bad HE.out HST.out (HS.out.trans hl')]; rfl, rfl⟩
        · obtain rfl : k = 0 := by omega
          have i5 : (0 : Int) < (xs.length : Int) := by omega
          have HS := Lib.hid (valAt_zero hlt hnk)
          rw [Nat.add_zero] at d0
          go_wp2_with (go_at_call 51; refine (implNameOk_any _ _ (by assumption)).mono ?_; rintro e w' ⟨rfl, rfl⟩)
          go_round
          case rel => exact ⟨0 + 1, d - 1, by omega, by go_num, by omega, valAt_good HE.out HST.out HS.out⟩
          case measure => simp [intOf]; omega
      · have hnk' : nameOk xs[k] = false := by simpa using hnk
        have i7 : (0 : Int) ≤ (k : Int) := by omega
        have i8 : (k : Int) < (xs.length : Int) := by omega
        clear hnk
        go_wp2_with (go_at_call 51; refine (implNameOk_any _ _ (by assumption)).mono ?_; rintro e w' ⟨rfl, rfl⟩)
        go_ret
        exact ⟨by rw [valAt_bad HE.out HST.out (valAt_name hlt hnk')]; rfl, rfl⟩
    · obtain rfl : k = xs.length := by omega
      have hend := allFrom_end (valAt xs) hd
      have HN : Hid (namesB xs = true) := by unfold Hid namesB; rw [HE.out, hend]
      clear hend HE
      go_wp2
      go_ret
      exact ⟨by rw [HN.out]; simp; omega, rfl⟩
def kindB (x : Term) : Bool :=
  if x.kind = 1 ∨ x.kind = 2 then decide (x.vals.length = 1) else if x.kind = 3 then decide (1 ≤ x.vals.length ∧ x.vals.length ≤ 6) else if x.kind = 4 ∨ x.kind = 5 then decide (x.vals.length = 0) else false
def termB (x : Term) : Bool := namesB x.vals && nameOk x.key && kindB x
def selB (xs : List Term) : Bool := xs.all termB && decide (xs.length ≤ 8)
theorem len_alt (n : Nat) : ((((n : Int) == 1) = true ∧ ((n : Int) == 0) = false ∧ decide ((1 : Int) ≤ (n : Int)) = true) ∧ n = 1) ∨ ((((n : Int) == 1) = false ∧ ((n : Int) == 0) = true ∧ decide ((1 : Int) ≤ (n : Int)) = false) ∧ n = 0) ∨ ((((n : Int) == 1) = false ∧ ((n : Int) == 0) = false ∧ decide ((1 : Int) ≤ (n : Int)) = true) ∧ 2 ≤ n) := by
  by_cases h1 : n = 1
  · left; subst h1; simp
  · by_cases h0 : n = 0
    · right; left; subst h0; simp
    · right; right
      refine ⟨⟨by simp; omega, by simp; omega, by simp; omega⟩, by omega⟩
theorem kind_alt (k : Int) : k = 1 ∨ k = 2 ∨ k = 3 ∨ k = 4 ∨ k = 5 ∨ (((k == 1) = false ∧ (k == 2) = false ∧ (k == 3) = false ∧ (k == 4) = false ∧ (k == 5) = false) ∧ (k ≠ 1 ∧ k ≠ 2 ∧ k ≠ 3 ∧ k ≠ 4 ∧ k ≠ 5)) := by
  by_cases h1 : k = 1
  · exact .inl h1
  by_cases h2 : k = 2
  · exact .inr (.inl h2)
  by_cases h3 : k = 3
  · exact .inr (.inr (.inl h3))
  by_cases h4 : k = 4
  · exact .inr (.inr (.inr (.inl h4)))
  by_cases h5 : k = 5
  · exact .inr (.inr (.inr (.inr (.inl h5))))
  exact .inr (.inr (.inr (.inr (.inr ⟨⟨by simpa using h1, by simpa using h2, by simpa using h3, by simpa using h4, by simpa using h5⟩, h1, h2, h3, h4, h5⟩))))
set_option maxHeartbeats 4000000 in
theorem termOk_any (kind : Int) (key : ByteArray) (vals : List ByteArray) (u : Value) (o : Bool) (F : List Nat) (w : World) (hk : key.size ≤ 9223372036854775807) (hr : rd o w (strD vals) [u] F) :
    Calls Try.prog 58 #[.agg #[.int .i64 kind, .string key, u]] w fun e w' => e = .returned (.bool (termB ⟨kind, key, vals⟩)) ∧ Below w.heap.size w w' := by
  obtain ⟨A, c, rfl, hn, hc, _⟩ := rd_Strs hr
  have HB := Lib.hid (belowA (Below.refl w.heap.size w) (.cells #[.int .i64 kind, .string key, .slice A vals.length c] 52))
  have HR := Lib.hid (rd_below hr HB.out)
  clear hr
  have KA := kind_alt kind
  have LA := len_alt vals.length
  have NA : nameOk key = true ∨ nameOk key = false := by cases nameOk key <;> simp
  rcases LA with ⟨⟨l1, l2, l3⟩, hl⟩ | ⟨⟨l1, l2, l3⟩, hl⟩ | ⟨⟨l1, l2, l3⟩, hl⟩ <;> rcases NA with hnm | hnm <;> rcases KA with rfl | rfl | rfl | rfl | rfl | ⟨⟨m1, m2, m3, m4, m5⟩, hm⟩
  all_goals
    have HL := Lib.hid hl
    clear hl
    go_enter Try.func58, Try.ntmps58
    go_wp2_with (first | (go_at_call 51; refine (implNameOk_any _ _ (by assumption)).mono ?_; rintro e w' ⟨rfl, rfl⟩) | (go_at_call 84; refine (namesOk_any vals _ o F _ HR.out).mono ?_; rintro e w' ⟨rfl, rfl⟩))
    go_ret
    refine ⟨congrArg (fun z => Ending.returned (.bool z)) ?_, HB.out⟩
    have hl := HL.out
    first
      | (simp [termB, kindB, hnm, hl]; done)
      | (have hv := List.eq_nil_of_length_eq_zero hl; simp [termB, kindB, hnm, hv]; done)
      | (have a1 : ¬ vals.length = 1 := by omega
         have a0 : vals ≠ [] := by intro h; simp [h] at hl
         have a2 : 1 ≤ vals.length := by omega
         simp [termB, kindB, hnm, a1, a0, a2]; done)
      | (obtain ⟨x1, x2, x3, x4, x5⟩ := hm
         simp [termB, kindB, hnm, x1, x2, x3, x4, x5]; done)
end Go.Proofs.Ytpjpnppoejnafaa
