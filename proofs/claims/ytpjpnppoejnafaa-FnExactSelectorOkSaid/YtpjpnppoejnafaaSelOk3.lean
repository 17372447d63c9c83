/-
  SelectorOk of the reference.
-/
import Derived.Test.YtpjpnppoejnafaaSelOk2
namespace Go.Proofs.Ytpjpnppoejnafaa
open Go.RowKit
set_option linter.unusedVariables false
set_option linter.unusedSimpArgs false
attribute [local go_sem ↓] Go.wp_at_zero Go.wp_at_succ
local macro "qname" : tactic => `(tactic| go_quiet ((go_at_call 46; exact Calls.quiet_of_same ((specNameOk_any _ _ (by assumption)).mono fun _ _ h => ⟨h.1, h.2.symm⟩))))
set_option maxHeartbeats 4000000 in
theorem l2Term_any (kind : Int) (key : ByteArray) (vals : List ByteArray) (u : Value) (o : Bool) (F : List Nat) (w : World) (hkey : key.size ≤ 9223372036854775807) (hr : rd o w (strD vals) [u] F) :
    Calls Try.prog 54 #[.agg #[.int .i64 kind, .string key, u]] w fun e w' => e = .returned (.bool (termB ⟨kind, key, vals⟩)) ∧ Below w.heap.size w w' := by
  obtain ⟨A, c, rfl, hn, hc, hx⟩ := rd_Strs hr
  have HX := Lib.hid hx
  clear hx
  have HB := Lib.hid (belowA (Below.refl w.heap.size w) (.cells #[.int .i64 kind, .string key, .slice A vals.length c] 52))
  clear hr
  have hbox : (w.alloc (.cells #[.int .i64 kind, .string key, .slice A vals.length c] 52)).cell? ⟨w.heap.size, 0, none⟩ = some (.int .i64 kind) ∧ (w.alloc (.cells #[.int .i64 kind, .string key, .slice A vals.length c] 52)).cell? ⟨w.heap.size, 1, none⟩ = some (.string key) ∧ (w.alloc (.cells #[.int .i64 kind, .string key, .slice A vals.length c] 52)).cell? ⟨w.heap.size, 2, none⟩ = some (.slice A vals.length c) := ⟨by simp, by simp, by simp⟩
  have hw0 : w.heap.size < (w.alloc (.cells #[.int .i64 kind, .string key, .slice A vals.length c] 52)).heap.size := by simp
  go_enter Try.func54, Try.ntmps54
  go_wp2
  generalize (w.alloc (.cells #[.int .i64 kind, .string key, .slice A vals.length c] 52)) = W0 at hbox hw0 HB ⊢
  have HBOX := Lib.hid hbox
  have HW0 := Lib.hid hw0
  clear hbox hw0
  go_loopw [4] (fun i wr => ∃ k d : Nat, k ≤ vals.length ∧ i = .int .i64 k ∧ k + d = vals.length ∧ Hid (allFrom (valAt vals) vals.length 0 = allFrom (valAt vals) d k) ∧ Hid (Below W0.heap.size W0 wr)) (fun i _ => vals.length - (intOf i).toNat)
  case atStart => exact ⟨0, vals.length, by omega, rfl, by omega, rfl, Below.refl _ _⟩
  case round =>
    obtain ⟨k, d, hk, rfl, hd, HE, HB2⟩ := hrel
    have b0 := below_cell HB2.out HBOX.out.1
    have b1 := below_cell HB2.out HBOX.out.2.1
    have b2 := below_cell HB2.out HBOX.out.2.2
    have hbx : w.heap.size < wr.heap.size := by have := HB2.out.size; have := HW0.out; omega
    by_cases hlt : k < vals.length
    · obtain ⟨b, off, rfl, hbl, c0, k0⟩ := HX.out k hlt
      have d0 := below_cell (belowT HB.out HB2.out) c0
      have hbw : b < wr.heap.size := by omega
      have HST := Lib.hid (allFrom_step (valAt vals) hd hlt)
      clear c0
      by_cases hnk : nameOk vals[k] = true
      · by_cases h0 : 0 < k
        · obtain ⟨j, rfl⟩ : ∃ j, k = j + 1 := ⟨k - 1, by omega⟩
          obtain ⟨b', off', he, _, q0, _⟩ := HX.out j (by omega)
          cases he
          have q0 := below_cell (belowT HB.out HB2.out) q0
          have i4 : (0 : Int) ≤ (j : Int) + 1 := by omega
          have i5 : (j : Int) + 1 < (vals.length : Int) := by omega
          have i6 : (0 : Int) < (j : Int) + 1 := by omega
          have i7 : (0 : Int) ≤ (j : Int) := by omega
          have i8 : (j : Int) < (vals.length : Int) := by omega
          have i9 : decide ((0 : Int) < (j : Int) + 1) = true := by simp
          have iw : IntKind.i64.wrap (j : Int) = (j : Int) := IntWalk.i64_in _ (by omega)
          have HS := Lib.hid (valAt_succ hlt hnk)
          by_cases hl : Op.bytesLess vals[j].toList vals[j + 1].toList = true
          · go_wp2_with fail
            qname
            go_wp2
            go_roundw
            case rel => exact ⟨j + 1 + 1, d - 1, by omega, by go_num, by omega, valAt_good HE.out HST.out (HS.out.trans hl), belowN HB2.out _⟩
            case measure => simp [intOf]; omega
          · have hl' : Op.bytesLess vals[j].toList vals[j + 1].toList = false := by simpa using hl
            clear hl
            have HV : Hid (termB ⟨kind, key, vals⟩ = false) := by unfold Hid termB; rw [valAt_bad HE.out HST.out (HS.out.trans hl')]; rfl
            go_wp2_with fail
            qname
            go_wp2
            go_ret
            exact ⟨by rw [HV.out]; rfl, belowN (belowT HB.out HB2.out) _⟩
        · obtain rfl : k = 0 := by omega
          have i5 : (0 : Int) < (vals.length : Int) := by omega
          have HS := Lib.hid (valAt_zero hlt hnk)
          rw [Nat.add_zero] at d0
          go_wp2_with fail
          qname
          go_wp2
          go_roundw
          case rel => exact ⟨0 + 1, d - 1, by omega, by go_num, by omega, valAt_good HE.out HST.out HS.out, belowN HB2.out _⟩
          case measure => simp [intOf]; omega
      · have hnk' : nameOk vals[k] = false := by simpa using hnk
        have i7 : (0 : Int) ≤ (k : Int) := by omega
        have i8 : (k : Int) < (vals.length : Int) := by omega
        clear hnk
        have HV : Hid (termB ⟨kind, key, vals⟩ = false) := by unfold Hid termB; rw [valAt_bad HE.out HST.out (valAt_name hlt hnk')]; rfl
        go_wp2_with fail
        qname
        go_wp2
        go_ret
        exact ⟨by rw [HV.out]; rfl, belowN (belowT HB.out HB2.out) _⟩
    · obtain rfl : k = vals.length := by omega
      have hend := allFrom_end (valAt vals) hd
      have HN : Hid (namesB vals = true) := by unfold Hid namesB; rw [HE.out, hend]
      clear hend HE
      have KA := kind_alt kind
      have LA := len_alt vals.length
      have NA : nameOk key = true ∨ nameOk key = false := by cases nameOk key <;> simp
      have L3 : inB (vals.length : Int) 1 6 = decide (1 ≤ vals.length ∧ vals.length ≤ 6) := by
        by_cases h : 1 ≤ vals.length ∧ vals.length ≤ 6
        · rw [decide_eq_true h]; exact inB_iff.2 (by omega)
        · rw [decide_eq_false h]; exact inB_false.2 (by omega)
      have HL3 := Lib.hid L3
      clear L3
      rcases LA with ⟨⟨l1, l2, l3⟩, hl⟩ | ⟨⟨l1, l2, l3⟩, hl⟩ | ⟨⟨l1, l2, l3⟩, hl⟩ <;> rcases NA with hnm | hnm <;> rcases KA with rfl | rfl | rfl | rfl | rfl | ⟨⟨m1, m2, m3, m4, m5⟩, hm⟩
      all_goals
        have HL := Lib.hid hl
        clear hl
        go_wp2_with (first | (go_at_call 46; refine (specNameOk_any _ _ (by assumption)).mono ?_; rintro e w' ⟨rfl, rfl⟩) | (go_at_call 76; refine (l1In_any _ _ _ _).mono ?_; rintro e w' ⟨rfl, rfl⟩))
        go_ret
        refine ⟨congrArg (fun z => Ending.returned (.bool z)) ?_, belowT HB.out HB2.out⟩
        have hl := HL.out
        have L3 := HL3.out
        have HNN := HN.out
        first
          | (simp [termB, kindB, hnm, hl, HNN]; done)
          | (have hv := List.eq_nil_of_length_eq_zero hl; subst hv; simp [termB, kindB, hnm, HNN]; done)
          | (have a1 : ¬ vals.length = 1 := by omega
             have a0 : vals ≠ [] := by intro h; simp [h] at hl
             have a2 : 1 ≤ vals.length := by omega
             simp [termB, kindB, hnm, a1, a0, a2, HNN]; done)
          | (simp [termB, kindB, hnm, HNN, L3]; done)
          | (rw [L3]; simp [termB, kindB, hnm, HNN, hl]; done)
          | (obtain ⟨x1, x2, x3, x4, x5⟩ := hm
             simp [termB, kindB, hnm, x1, x2, x3, x4, x5]; done)
end Go.Proofs.Ytpjpnppoejnafaa
