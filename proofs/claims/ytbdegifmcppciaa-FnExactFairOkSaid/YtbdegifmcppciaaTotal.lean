/-
  Total: of the program and of the reference.
-/
import Derived.Test.YtbdegifmcppciaaShare
namespace Go.Proofs.Ytbdegifmcppciaa
open Go.RowKit
set_option linter.unusedVariables false
set_option linter.unusedSimpArgs false
attribute [local go_sem ↓] Go.wp_at_zero Go.wp_at_succ

def capUp (ws cs : List Int) : Nat → Int
  | 0 => 0
  | k + 1 => capUp ws cs k + (if 0 < ws.getD k 0 then cs.getD k 0 else 0)
theorem capUp_bound {n : Int} {ws cs : List Int} (h : shOk n ws cs = true) : ∀ k, k ≤ ws.length → 0 ≤ capUp ws cs k ∧ capUp ws cs k ≤ 10000 * k
  | 0, _ => by simp [capUp]
  | k + 1, hk => by
    obtain ⟨_, _, hl, _, hc⟩ := shOk_iff.1 h
    obtain ⟨i1, i2⟩ := capUp_bound h k (by omega)
    have := hc k (by omega)
    rw [capUp]
    rw [List.getD_eq_getElem?_getD, List.getD_eq_getElem?_getD, List.getElem?_eq_getElem (show k < cs.length by omega), Option.getD_some]
    split <;> omega
theorem capUp_step {ws cs : List Int} {k : Nat} (hk : k < ws.length) (hc : k < cs.length) : (0 < ws[k] → capUp ws cs (k + 1) = capUp ws cs k + cs[k]) ∧ (¬ 0 < ws[k] → capUp ws cs (k + 1) = capUp ws cs k) := by
  rw [capUp, List.getD_eq_getElem?_getD, List.getD_eq_getElem?_getD, List.getElem?_eq_getElem hk, List.getElem?_eq_getElem hc, Option.getD_some, Option.getD_some]
  constructor
  · intro h; rw [if_pos h]
  · intro h; rw [if_neg h]; omega
def totalOf (n : Int) (ws cs : List Int) : Int := if shOk n ws cs = true then (if n < capUp ws cs ws.length then n else capUp ws cs ws.length) else -1
theorem implTotal_any (n : Int) (ws cs : List Int) (v u : Value) (o o' : Bool) (F G : List Nat) (w : World) (hr : rd o w (intD ws) [v] F) (hq : rd o' w (intD cs) [u] G) :
    Calls Try.prog 31 #[.int .i64 n, v, u] w fun e w' => e = .returned (.int .i64 (totalOf n ws cs)) ∧ w = w' := by
  obtain ⟨A, c, rfl, hn, hc, hx⟩ := rd_Ints hr
  obtain ⟨A', c', rfl, hn', hc', hy⟩ := rd_Ints hq
  by_cases hs : shOk n ws cs = true
  · obtain ⟨⟨n0, n1⟩, l1, l2, _, hcc⟩ := shOk_iff.1 hs
    have HL := Lib.hid l2
    have HC := Lib.hid hcc
    have HX := Lib.hid hx
    have HY := Lib.hid hy
    clear hx hy l2 hcc
    have hv : totalOf n ws cs = if n < capUp ws cs ws.length then n else capUp ws cs ws.length := by unfold totalOf; rw [if_pos hs]
    have HV := Lib.hid hv
    clear hv
    go_enter Try.func31, Try.ntmps31
    go_wp2_with (go_at_call 52; refine (sharesOk_any n ws cs _ _ o o' F G _ hr hq).mono ?_; rintro e w' ⟨rfl, rfl⟩)
    go_loop [7, 8, 9, 17] (fun s _ _ i => ∃ k : Nat, k ≤ ws.length ∧ i = .int .i64 k ∧ s = .int .i64 (capUp ws cs k)) (fun _ _ _ i => ws.length - (intOf i).toNat)
    case atStart => exact ⟨0, by omega, rfl, rfl⟩
    case round =>
      obtain ⟨k, hk, rfl, rfl⟩ := hrel
      obtain ⟨b0, b1⟩ := capUp_bound hs k hk
      by_cases hlt : k < ws.length
      · have hlt' : k < cs.length := by have := HL.out; omega
        obtain ⟨b, off, rfl, hbl, c0, k0⟩ := HX.out k hlt
        obtain ⟨b', off', rfl, hbl', c0', k0'⟩ := HY.out k hlt'
        obtain ⟨s1, s2⟩ := capUp_step hlt hlt'
        have S1 := Lib.hid s1
        have S2 := Lib.hid s2
        obtain ⟨m0, m1⟩ := HC.out k hlt'
        clear s1 s2
        by_cases hw : 0 < ws[k]
        · go_wp2
          go_round
          case rel => exact ⟨k + 1, by omega, by go_num, by rw [S1.out hw]⟩
          case measure => simp [intOf]; omega
        · go_wp2
          go_round
          case rel => exact ⟨k + 1, by omega, by go_num, by rw [S2.out hw]⟩
          case measure => simp [intOf]; omega
      · obtain rfl : k = ws.length := by omega
        go_wp2
        all_goals go_ret
        all_goals exact ⟨congrArg (fun z => Ending.returned (.int .i64 z)) (by rw [HV.out]; split <;> omega), rfl⟩
  · have hs' : shOk n ws cs = false := by simpa using hs
    have hv : totalOf n ws cs = -1 := by unfold totalOf; rw [if_neg hs]
    have HV := Lib.hid hv
    clear hv hs hx hy
    go_enter Try.func31, Try.ntmps31
    go_wp2_with (go_at_call 52; refine (sharesOk_any n ws cs _ _ o o' F G _ hr hq).mono ?_; rintro e w' ⟨rfl, rfl⟩)
    go_ret
    exact ⟨by rw [HV.out]; rfl, rfl⟩
theorem l6Right_any (n : Int) (ws cs : List Int) (v u : Value) (o o' : Bool) (F G : List Nat) (w : World) (hr : rd o w (intD ws) [v] F) (hq : rd o' w (intD cs) [u] G) :
    Calls Try.prog 51 #[.int .i64 n, v, u] w fun e w' => e = .returned (.bool (shOk n ws cs)) ∧ w = w' := by
  obtain ⟨A, c, rfl, hn, hc, hx⟩ := rd_Ints hr
  obtain ⟨A', c', rfl, hn', hc', hy⟩ := rd_Ints hq
  by_cases h1 : inB n 0 10000 = true
  · by_cases h2 : ws.length ≤ 64
    · by_cases h3 : cs.length = ws.length
      · have HL := Lib.hid h3
        have h3b : ((ws.length : Int) != (cs.length : Int)) = false := by rw [h3]; simp
        have HX := Lib.hid hx
        have HY := Lib.hid hy
        clear h3 hx hy
        go_enter Try.func51, Try.ntmps51
        go_wp2_with (go_at_call 44; refine (l1In_any _ _ _ _).mono ?_; rintro e w' ⟨rfl, rfl⟩)
        go_loop [7] (fun i => ∃ k : Nat, k ≤ ws.length ∧ i = .int .i64 k ∧ Hid (∀ j (h : j < ws.length) (h' : j < cs.length), j < k → (0 ≤ ws[j] ∧ ws[j] ≤ 1000) ∧ (0 ≤ cs[j] ∧ cs[j] ≤ 10000))) (fun i => ws.length - (intOf i).toNat)
        case atStart => exact ⟨0, by omega, rfl, fun j _ _ h => by omega⟩
        case round =>
          obtain ⟨k, hk, rfl, HA⟩ := hrel
          by_cases hlt : k < ws.length
          · have hlt' : k < cs.length := by have := HL.out; omega
            obtain ⟨b, off, rfl, hbl, c0, k0⟩ := HX.out k hlt
            obtain ⟨b', off', rfl, hbl', c0', k0'⟩ := HY.out k hlt'
            by_cases hw : inB ws[k] 0 1000 = true
            · by_cases hcc : inB cs[k] 0 10000 = true
              · go_wp2_with (go_at_call 44; refine (l1In_any _ _ _ _).mono ?_; rintro e w' ⟨rfl, rfl⟩)
                go_round
                case rel =>
                  refine ⟨k + 1, by omega, by go_num, fun j h h' hj => ?_⟩
                  by_cases e : j = k
                  · subst e; exact ⟨inB_iff.1 hw, inB_iff.1 hcc⟩
                  · exact HA.out j h h' (by omega)
                case measure => simp [intOf]; omega
              · have hc2 : inB cs[k] 0 10000 = false := by simpa using hcc
                have hv : shOk n ws cs = false := by
                  cases h : shOk n ws cs with
                  | false => rfl
                  | true => exact absurd (inB_iff.2 ((shOk_iff.1 h).2.2.2.2 k hlt')) hcc
                have HV := Lib.hid hv
                clear hcc hv
                go_wp2_with (go_at_call 44; refine (l1In_any _ _ _ _).mono ?_; rintro e w' ⟨rfl, rfl⟩)
                go_ret
                exact ⟨by rw [HV.out]; rfl, rfl⟩
            · have hw2 : inB ws[k] 0 1000 = false := by simpa using hw
              have hv : shOk n ws cs = false := by
                cases h : shOk n ws cs with
                | false => rfl
                | true => exact absurd (inB_iff.2 ((shOk_iff.1 h).2.2.2.1 k hlt)) hw
              have HV := Lib.hid hv
              clear hw hv
              go_wp2_with (go_at_call 44; refine (l1In_any _ _ _ _).mono ?_; rintro e w' ⟨rfl, rfl⟩)
              go_ret
              exact ⟨by rw [HV.out]; rfl, rfl⟩
          · obtain rfl : k = ws.length := by omega
            have hv : shOk n ws cs = true := shOk_iff.2 ⟨inB_iff.1 h1, h2, HL.out, fun i h => (HA.out i h (by have := HL.out; omega) h).1, fun i h => (HA.out i (by have := HL.out; omega) h (by have := HL.out; omega)).2⟩
            have HV := Lib.hid hv
            clear hv
            go_wp2
            go_ret
            exact ⟨by rw [HV.out]; rfl, rfl⟩
      · have h3b : ((ws.length : Int) != (cs.length : Int)) = true := by simp; omega
        have hv : shOk n ws cs = false := by unfold shOk; simp [h3]
        have HV := Lib.hid hv
        clear h3 hv hx hy
        go_enter Try.func51, Try.ntmps51
        go_wp2_with (go_at_call 44; refine (l1In_any _ _ _ _).mono ?_; rintro e w' ⟨rfl, rfl⟩)
        go_ret
        exact ⟨by rw [HV.out]; rfl, rfl⟩
    · have hv : shOk n ws cs = false := by unfold shOk; simp [h2]
      have HV := Lib.hid hv
      clear hv hx hy
      go_enter Try.func51, Try.ntmps51
      go_wp2_with (go_at_call 44; refine (l1In_any _ _ _ _).mono ?_; rintro e w' ⟨rfl, rfl⟩)
      go_ret
      exact ⟨by rw [HV.out]; rfl, rfl⟩
  · have h1' : inB n 0 10000 = false := by simpa using h1
    have hv : shOk n ws cs = false := by unfold shOk; simp [h1']
    have HV := Lib.hid hv
    clear h1 hv hx hy
    go_enter Try.func51, Try.ntmps51
    go_wp2_with (go_at_call 44; refine (l1In_any _ _ _ _).mono ?_; rintro e w' ⟨rfl, rfl⟩)
    go_ret
    exact ⟨by rw [HV.out]; rfl, rfl⟩
theorem specTotal_any (n : Int) (ws cs : List Int) (v u : Value) (o o' : Bool) (F G : List Nat) (w : World) (hr : rd o w (intD ws) [v] F) (hq : rd o' w (intD cs) [u] G) :
    Calls Try.prog 29 #[.int .i64 n, v, u] w fun e w' => e = .returned (.int .i64 (totalOf n ws cs)) ∧ w = w' := by
  obtain ⟨A, c, rfl, hn, hc, hx⟩ := rd_Ints hr
  obtain ⟨A', c', rfl, hn', hc', hy⟩ := rd_Ints hq
  by_cases hs : shOk n ws cs = true
  · obtain ⟨⟨n0, n1⟩, l1, l2, _, hcc⟩ := shOk_iff.1 hs
    have HL := Lib.hid l2
    have HC := Lib.hid hcc
    have HX := Lib.hid hx
    have HY := Lib.hid hy
    clear hx hy l2 hcc
    have hv : totalOf n ws cs = if n < capUp ws cs ws.length then n else capUp ws cs ws.length := by unfold totalOf; rw [if_pos hs]
    have HV := Lib.hid hv
    clear hv
    go_enter Try.func29, Try.ntmps29
    go_wp2_with (go_at_call 51; refine (l6Right_any n ws cs _ _ o o' F G _ hr hq).mono ?_; rintro e w' ⟨rfl, rfl⟩)
    go_loop [7, 8] (fun s i => ∃ k : Nat, k ≤ ws.length ∧ i = .int .i64 k ∧ s = .int .i64 (capUp ws cs k)) (fun _ i => ws.length - (intOf i).toNat)
    case atStart => exact ⟨0, by omega, rfl, rfl⟩
    case round =>
      obtain ⟨k, hk, rfl, rfl⟩ := hrel
      obtain ⟨b0, b1⟩ := capUp_bound hs k hk
      by_cases hlt : k < ws.length
      · have hlt' : k < cs.length := by have := HL.out; omega
        obtain ⟨b, off, rfl, hbl, c0, k0⟩ := HX.out k hlt
        obtain ⟨b', off', rfl, hbl', c0', k0'⟩ := HY.out k hlt'
        obtain ⟨s1, s2⟩ := capUp_step hlt hlt'
        have S1 := Lib.hid s1
        have S2 := Lib.hid s2
        obtain ⟨m0, m1⟩ := HC.out k hlt'
        clear s1 s2
        by_cases hw : 0 < ws[k]
        · go_wp2
          go_round
          case rel => exact ⟨k + 1, by omega, by go_num, by rw [S1.out hw]⟩
          case measure => simp [intOf]; omega
        · go_wp2
          go_round
          case rel => exact ⟨k + 1, by omega, by go_num, by rw [S2.out hw]⟩
          case measure => simp [intOf]; omega
      · obtain rfl : k = ws.length := by omega
        by_cases hfin : n < capUp ws cs ws.length
        · have HF : Hid (totalOf n ws cs = n) := by unfold Hid; rw [HV.out, if_pos hfin]
          go_wp2
          go_ret
          exact ⟨by rw [HF.out]; rfl, rfl⟩
        · have HF : Hid (totalOf n ws cs = capUp ws cs ws.length) := by unfold Hid; rw [HV.out, if_neg hfin]
          go_wp2
          go_ret
          exact ⟨by rw [HF.out]; rfl, rfl⟩
  · have hs' : shOk n ws cs = false := by simpa using hs
    have hv : totalOf n ws cs = -1 := by unfold totalOf; rw [if_neg hs]
    have HV := Lib.hid hv
    clear hv hs hx hy
    go_enter Try.func29, Try.ntmps29
    go_wp2_with (go_at_call 51; refine (l6Right_any n ws cs _ _ o o' F G _ hr hq).mono ?_; rintro e w' ⟨rfl, rfl⟩)
    go_ret
    exact ⟨by rw [HV.out]; rfl, rfl⟩
end Go.Proofs.Ytbdegifmcppciaa
