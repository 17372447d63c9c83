/-
  LabelsOk of the program and of the reference.
-/
import Derived.Test.YtpjpnppoejnafaaLabFam
import Derived.Test.YtpjpnppoejnafaaName
import Derived.WalkLawsBesides
namespace Go.Proofs.Ytpjpnppoejnafaa
open Go.RowKit
set_option linter.unusedVariables false
set_option linter.unusedSimpArgs false
attribute [local go_sem ↓] Go.wp_at_zero Go.wp_at_succ

def allFrom (f : Nat → Bool) : Nat → Nat → Bool
  | 0, _ => true
  | d + 1, k => f k && allFrom f d (k + 1)
theorem allFrom_step (f : Nat → Bool) {d k n : Nat} (hd : k + d = n) (hk : k < n) : allFrom f d k = (f k && allFrom f (d - 1) (k + 1)) := by
  obtain ⟨d, rfl⟩ : ∃ m, d = m + 1 := ⟨d - 1, by omega⟩
  rfl
theorem allFrom_end (f : Nat → Bool) {d n : Nat} (hd : n + d = n) : allFrom f d n = true := by
  obtain rfl : d = 0 := by omega
  rfl
def strLt (a b : ByteArray) : Bool := Op.bytesLess a.toList b.toList
def labAt (xs : List Label) (k : Nat) : Bool :=
  if h : k < xs.length then nameOk xs[k].key && nameOk xs[k].value && (if 0 < k then strLt (xs[k - 1]'(by omega)).key xs[k].key else true) else true
def labsOk (xs : List Label) : Bool := allFrom (labAt xs) xs.length 0 && decide (xs.length ≤ 8)
theorem labAt_bad {xs : List Label} {k d : Nat} (HE : allFrom (labAt xs) xs.length 0 = allFrom (labAt xs) d k) (HST : allFrom (labAt xs) d k = (labAt xs k && allFrom (labAt xs) (d - 1) (k + 1))) (h : labAt xs k = false) : labsOk xs = false := by
  unfold labsOk; rw [HE, HST, h]; rfl
theorem labAt_good {xs : List Label} {k d : Nat} (HE : allFrom (labAt xs) xs.length 0 = allFrom (labAt xs) d k) (HST : allFrom (labAt xs) d k = (labAt xs k && allFrom (labAt xs) (d - 1) (k + 1))) (h : labAt xs k = true) :
    allFrom (labAt xs) xs.length 0 = allFrom (labAt xs) (d - 1) (k + 1) := by rw [HE, HST, h]; rfl
theorem labAt_key {xs : List Label} {k : Nat} (h : k < xs.length) (hb : nameOk xs[k].key = false) : labAt xs k = false := by unfold labAt; rw [dif_pos h, hb]; rfl
theorem labAt_value {xs : List Label} {k : Nat} (h : k < xs.length) (hb : nameOk xs[k].value = false) : labAt xs k = false := by unfold labAt; rw [dif_pos h, hb]; simp
theorem labAt_zero {xs : List Label} (h : 0 < xs.length) (hb : nameOk xs[0].key = true) (hv : nameOk xs[0].value = true) : labAt xs 0 = true := by unfold labAt; rw [dif_pos h, hb, hv]; rfl
theorem labAt_succ {xs : List Label} {j : Nat} (h : j + 1 < xs.length) (hb : nameOk xs[j + 1].key = true) (hv : nameOk xs[j + 1].value = true) : labAt xs (j + 1) = Op.bytesLess xs[j].key.toList xs[j + 1].key.toList := by unfold labAt; rw [dif_pos h, hb, hv]; rfl
theorem specLabelsOk_any (xs : List Label) (v : Value) (o : Bool) (F : List Nat) (w : World) (hr : rd o w (labD xs) [v] F) :
    Calls Try.prog 35 #[v] w fun e w' => e = .returned (.bool (labsOk xs)) ∧ Below w.heap.size w w' := by
  obtain ⟨A, c, rfl, hn, hc, hx⟩ := rd_labs hr
  have HX := Lib.hid hx
  clear hx hr
  go_enter Try.func35, Try.ntmps35
  go_wp2
  go_loopw [3] (fun i wr => ∃ k d : Nat, k ≤ xs.length ∧ i = .int .i64 k ∧ k + d = xs.length ∧ Hid (allFrom (labAt xs) xs.length 0 = allFrom (labAt xs) d k) ∧ Below w.heap.size w wr) (fun i _ => xs.length - (intOf i).toNat)
  case atStart => exact ⟨0, xs.length, by omega, rfl, by omega, rfl, Below.refl _ _⟩
  case round =>
    obtain ⟨k, d, hk, rfl, hd, HE, hb⟩ := hrel
    by_cases hlt : k < xs.length
    · obtain ⟨b, off, rfl, hbl, c0, c1, k0, k1⟩ := HX.out k hlt
      have d0 := below_cell hb c0
      have d1 := below_cell hb c1
      have HST := Lib.hid (allFrom_step (labAt xs) hd hlt)
      have hbw : b < wr.heap.size := by have := hb.size; omega
      have HB := Lib.hid hb
      clear hb c0 c1
      by_cases hnk : nameOk xs[k].key = true
      · by_cases hnv : nameOk xs[k].value = true
        · by_cases h0 : 0 < k
          · obtain ⟨j, rfl⟩ : ∃ j, k = j + 1 := ⟨k - 1, by omega⟩
            obtain ⟨b', off', he, _, p0, _, _, _⟩ := HX.out j (by omega)
            cases he
            have q0 := below_cell HB.out p0
            have i4 : (0 : Int) ≤ (j : Int) + 1 := by omega
            have i5 : (j : Int) + 1 < (xs.length : Int) := by omega
            have i6 : (0 : Int) < (j : Int) + 1 := by omega
            have i7 : (0 : Int) ≤ (j : Int) := by omega
            have i8 : (j : Int) < (xs.length : Int) := by omega
            have i9 : decide ((0 : Int) < (j : Int) + 1) = true := by simp
            have iw : IntKind.i64.wrap (j : Int) = (j : Int) := IntWalk.i64_in _ (by omega)
            have HS := Lib.hid (labAt_succ hlt hnk hnv)
            clear p0
            by_cases hl : Op.bytesLess xs[j].key.toList xs[j + 1].key.toList = true
            · go_wp2
              go_quiet ((go_at_call 46; exact Calls.quiet_of_same ((specNameOk_any _ _ (by assumption)).mono fun _ _ h => ⟨h.1, h.2.symm⟩)))
              go_wp2
              go_roundw
              case rel => exact ⟨j + 1 + 1, d - 1, by omega, by go_num, by omega, labAt_good HE.out HST.out (HS.out.trans hl), belowN HB.out _⟩
              case measure => simp [intOf]; omega
            · have hl' : Op.bytesLess xs[j].key.toList xs[j + 1].key.toList = false := by simpa using hl
              clear hl
              go_wp2
              go_quiet ((go_at_call 46; exact Calls.quiet_of_same ((specNameOk_any _ _ (by assumption)).mono fun _ _ h => ⟨h.1, h.2.symm⟩)))
              go_wp2
              go_ret
              exact ⟨by rw [labAt_bad HE.out HST.out (HS.out.trans hl')]; rfl, belowN HB.out _⟩
          · obtain rfl : k = 0 := by omega
            have i5 : (0 : Int) < (xs.length : Int) := by omega
            have HS := Lib.hid (labAt_zero hlt hnk hnv)
            rw [Nat.zero_mul, Nat.add_zero] at d0 d1
            go_wp2
            go_quiet ((go_at_call 46; exact Calls.quiet_of_same ((specNameOk_any _ _ (by assumption)).mono fun _ _ h => ⟨h.1, h.2.symm⟩)))
            go_wp2
            go_roundw
            case rel => exact ⟨0 + 1, d - 1, by omega, by go_num, by omega, labAt_good HE.out HST.out HS.out, belowN HB.out _⟩
            case measure => simp [intOf]; omega
        · have hnv' : nameOk xs[k].value = false := by simpa using hnv
          have i7 : (0 : Int) ≤ (k : Int) := by omega
          have i8 : (k : Int) < (xs.length : Int) := by omega
          clear hnv
          go_wp2
          go_quiet ((go_at_call 46; exact Calls.quiet_of_same ((specNameOk_any _ _ (by assumption)).mono fun _ _ h => ⟨h.1, h.2.symm⟩)))
          go_wp2
          go_ret
          exact ⟨by rw [labAt_bad HE.out HST.out (labAt_value hlt hnv')]; rfl, belowN HB.out _⟩
      · have hnk' : nameOk xs[k].key = false := by simpa using hnk
        have i7 : (0 : Int) ≤ (k : Int) := by omega
        have i8 : (k : Int) < (xs.length : Int) := by omega
        clear hnk
        go_wp2
        go_quiet ((go_at_call 46; exact Calls.quiet_of_same ((specNameOk_any _ _ (by assumption)).mono fun _ _ h => ⟨h.1, h.2.symm⟩)))
        go_wp2
        go_ret
        exact ⟨by rw [labAt_bad HE.out HST.out (labAt_key hlt hnk')]; rfl, belowN HB.out _⟩
    · obtain rfl : k = xs.length := by omega
      have hend := allFrom_end (labAt xs) hd
      have HN : Hid (labsOk xs = decide (xs.length ≤ 8)) := by unfold Hid labsOk; rw [HE.out, hend]; rfl
      clear hend HE
      go_wp2
      go_ret
      exact ⟨by rw [HN.out]; simp; omega, hb⟩
theorem implLabelsOk_any (xs : List Label) (v : Value) (o : Bool) (F : List Nat) (w : World) (hr : rd o w (labD xs) [v] F) :
    Calls Try.prog 43 #[v] w fun e w' => e = .returned (.bool (labsOk xs)) ∧ Below w.heap.size w w' := by
  obtain ⟨A, c, rfl, hn, hc, hx⟩ := rd_labs hr
  have HX := Lib.hid hx
  clear hx hr
  go_enter Try.func43, Try.ntmps43
  go_wp2
  go_loopw [3, 4, 7] (fun _ _ i wr => ∃ k d : Nat, k ≤ xs.length ∧ i = .int .i64 k ∧ k + d = xs.length ∧ Hid (allFrom (labAt xs) xs.length 0 = allFrom (labAt xs) d k) ∧ Below w.heap.size w wr) (fun _ _ i _ => xs.length - (intOf i).toNat)
  case atStart => exact ⟨0, xs.length, by omega, rfl, by omega, rfl, Below.refl _ _⟩
  case round =>
    obtain ⟨k, d, hk, rfl, hd, HE, hb⟩ := hrel
    by_cases hlt : k < xs.length
    · obtain ⟨b, off, rfl, hbl, c0, c1, k0, k1⟩ := HX.out k hlt
      have d0 := below_cell hb c0
      have d1 := below_cell hb c1
      have HST := Lib.hid (allFrom_step (labAt xs) hd hlt)
      have hbw : b < wr.heap.size := by have := hb.size; omega
      have HB := Lib.hid hb
      clear hb c0 c1
      by_cases hnk : nameOk xs[k].key = true
      · by_cases hnv : nameOk xs[k].value = true
        · by_cases h0 : 0 < k
          · obtain ⟨j, rfl⟩ : ∃ j, k = j + 1 := ⟨k - 1, by omega⟩
            obtain ⟨b', off', he, _, p0, _, _, _⟩ := HX.out j (by omega)
            cases he
            have q0 := below_cell HB.out p0
            have i4 : (0 : Int) ≤ (j : Int) + 1 := by omega
            have i5 : (j : Int) + 1 < (xs.length : Int) := by omega
            have i6 : (0 : Int) < (j : Int) + 1 := by omega
            have i7 : (0 : Int) ≤ (j : Int) := by omega
            have i8 : (j : Int) < (xs.length : Int) := by omega
            have i9 : decide ((0 : Int) < (j : Int) + 1) = true := by simp
            have iw : IntKind.i64.wrap (j : Int) = (j : Int) := IntWalk.i64_in _ (by omega)
            have HS := Lib.hid (labAt_succ hlt hnk hnv)
            clear p0
            by_cases hl : Op.bytesLess xs[j].key.toList xs[j + 1].key.toList = true
            · go_wp2
              go_quiet ((go_at_call 51; exact Calls.quiet_of_same ((implNameOk_any _ _ (by assumption)).mono fun _ _ h => ⟨h.1, h.2.symm⟩)))
              go_wp2
              go_roundw
              case rel => exact ⟨j + 1 + 1, d - 1, by omega, by go_num, by omega, labAt_good HE.out HST.out (HS.out.trans hl), belowN (belowA HB.out _) _⟩
              case measure => simp [intOf]; omega
            · have hl' : Op.bytesLess xs[j].key.toList xs[j + 1].key.toList = false := by simpa using hl
              clear hl
              go_wp2
              go_quiet ((go_at_call 51; exact Calls.quiet_of_same ((implNameOk_any _ _ (by assumption)).mono fun _ _ h => ⟨h.1, h.2.symm⟩)))
              go_wp2
              go_ret
              exact ⟨by rw [labAt_bad HE.out HST.out (HS.out.trans hl')]; rfl, belowN (belowA HB.out _) _⟩
          · obtain rfl : k = 0 := by omega
            have i5 : (0 : Int) < (xs.length : Int) := by omega
            have HS := Lib.hid (labAt_zero hlt hnk hnv)
            rw [Nat.zero_mul, Nat.add_zero] at d0 d1
            go_wp2
            go_quiet ((go_at_call 51; exact Calls.quiet_of_same ((implNameOk_any _ _ (by assumption)).mono fun _ _ h => ⟨h.1, h.2.symm⟩)))
            go_wp2
            go_roundw
            case rel => exact ⟨0 + 1, d - 1, by omega, by go_num, by omega, labAt_good HE.out HST.out HS.out, belowN (belowA HB.out _) _⟩
            case measure => simp [intOf]; omega
        · have hnv' : nameOk xs[k].value = false := by simpa using hnv
          have i7 : (0 : Int) ≤ (k : Int) := by omega
          have i8 : (k : Int) < (xs.length : Int) := by omega
          clear hnv
          go_wp2
          go_quiet ((go_at_call 51; exact Calls.quiet_of_same ((implNameOk_any _ _ (by assumption)).mono fun _ _ h => ⟨h.1, h.2.symm⟩)))
          go_wp2
          go_ret
          exact ⟨by rw [labAt_bad HE.out HST.out (labAt_value hlt hnv')]; rfl, belowN (belowA HB.out _) _⟩
      · have hnk' : nameOk xs[k].key = false := by simpa using hnk
        have i7 : (0 : Int) ≤ (k : Int) := by omega
        have i8 : (k : Int) < (xs.length : Int) := by omega
        clear hnk
        go_wp2
        go_quiet ((go_at_call 51; exact Calls.quiet_of_same ((implNameOk_any _ _ (by assumption)).mono fun _ _ h => ⟨h.1, h.2.symm⟩)))
        go_wp2
        go_ret
        exact ⟨by rw [labAt_bad HE.out HST.out (labAt_key hlt hnk')]; rfl, belowN (belowA HB.out _) _⟩
    · obtain rfl : k = xs.length := by omega
      have hend := allFrom_end (labAt xs) hd
      have HN : Hid (labsOk xs = decide (xs.length ≤ 8)) := by unfold Hid labsOk; rw [HE.out, hend]; rfl
      clear hend HE
      go_wp2
      go_ret
      exact ⟨by rw [HN.out]; simp; omega, hb⟩
end Go.Proofs.Ytpjpnppoejnafaa
