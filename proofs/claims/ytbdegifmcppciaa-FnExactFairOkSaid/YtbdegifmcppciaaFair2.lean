/-
  FairOk of the program.
-/
import Derived.Test.YtbdegifmcppciaaFair
namespace Go.Proofs.Ytbdegifmcppciaa
open Go.RowKit
set_option linter.unusedVariables false
set_option linter.unusedSimpArgs false
attribute [local go_sem ↓] Go.wp_at_zero Go.wp_at_succ
theorem totalOf_nonneg {n : Int} {ws cs : List Int} (h : shOk n ws cs = true) : 0 ≤ totalOf n ws cs ∧ totalOf n ws cs ≤ 10000 := by
  obtain ⟨⟨n0, n1⟩, l1, l2, _⟩ := shOk_iff.1 h
  have hb := capUp_bound h ws.length (Nat.le_refl _)
  unfold totalOf
  rw [if_pos h]
  split <;> omega
local macro "qimpl" : tactic => `(tactic| go_quiet ((go_at_call 45; exact Calls.quiet_of_same ((within_any _ _ _ _).mono fun _ _ h => ⟨h.1, h.2.symm⟩))))
set_option maxHeartbeats 4000000 in
set_option maxRecDepth 8000 in
theorem implFairOk_any (n : Int) (ws cs sh : List Int) (v u t : Value) (o o' o'' : Bool) (F G H : List Nat) (w : World) (hr : rd o w (intD ws) [v] F) (hq : rd o' w (intD cs) [u] G) (hp : rd o'' w (intD sh) [t] H) :
    Calls Try.prog 43 #[.int .i64 n, v, u, t] w fun e w' => (∃ b, e = .returned (.bool b) ∧ (b = true ↔ FairP n ws cs sh)) ∧ Below w.heap.size w w' := by
  obtain ⟨A, c, rfl, hn, hc, _⟩ := rd_Ix hr
  obtain ⟨A', c', rfl, hn', hc', _⟩ := rd_Ix hq
  obtain ⟨A'', c'', rfl, hn'', hc'', _⟩ := rd_Ix hp
  by_cases hs : shOk n ws cs = true
  · obtain ⟨t0, t1⟩ := totalOf_nonneg hs
    by_cases hlen : sh.length = ws.length
    · obtain ⟨⟨n0, n1⟩, l1, l2, hww, hcc⟩ := shOk_iff.1 hs
      have hC : ∀ i, i < ws.length → 0 ≤ ix cs i ∧ ix cs i ≤ 10000 := fun i hi => by rw [ix_eq (by omega)]; exact hcc i (by omega)
      have hW : ∀ i, i < ws.length → 0 ≤ ix ws i ∧ ix ws i ≤ 1000 := fun i hi => by rw [ix_eq (by omega)]; exact hww i (by omega)
      have HL := Lib.hid l2
      have HLs := Lib.hid hlen
      have HC := Lib.hid hC
      have HW := Lib.hid hW
      have HR := Lib.hid hr
      have HQ := Lib.hid hq
      have HP := Lib.hid hp
      have he : ((sh.length : Int) != (ws.length : Int)) = false := by rw [hlen]; simp
      have hb0 : ((sh.length : Int) == (ws.length : Int)) = true := by rw [hlen]; simp
      have HV : Hid (FairP n ws cs sh ↔ (∀ i, i < ws.length → okI ws cs sh i) ∧ (∀ i, i < ws.length → ∀ k, k < ws.length → ¬ badI ws cs sh i k) ∧ sumTo sh ws.length = totalOf n ws cs) := ⟨fun h => h.2.2, fun h => ⟨hs, hlen, h⟩⟩
      clear hr hq hp l2 hcc hww hC hW hlen
      go_enter Try.func43, Try.ntmps43
      go_wp2_with fail
      refine (implTotal_any n ws cs _ _ o o' F G _ HR.out HQ.out).mono ?_
      rintro e w' ⟨rfl, rfl⟩
      have hneg : decide (totalOf n ws cs < 0) = false := by simpa using t0
      go_wp2
      have HT0 := Lib.hid t0
      clear t0 hneg
      go_loop [9, 10, 11, 31] (fun s _ _ i => ∃ k : Nat, k ≤ ws.length ∧ i = .int .i64 k ∧ s = .int .i64 (totalOf n ws cs - sumTo sh k) ∧ Hid (∀ j, j < k → okI ws cs sh j)) (fun _ _ _ i => ws.length - (intOf i).toNat)
      case atStart => exact ⟨0, by omega, rfl, by simp [sumTo], by unfold Hid; omega⟩
      case round =>
        obtain ⟨k, hk, rfl, rfl, HE⟩ := hrel
        have t0 := HT0.out
        obtain ⟨b0, b1⟩ := sumTo_bound HC.out k hk HE.out
        by_cases hlt : k < ws.length
        · have hlt' : k < cs.length := by have := HL.out; omega
          have hlt'' : k < sh.length := by have := HLs.out; omega
          obtain ⟨b, off, rfl, hbl, c0, k0⟩ := rd_Ix2 (m := 0) HR.out (Below.refl _ _) k hlt
          obtain ⟨b', off', rfl, hbl', c0', k0'⟩ := rd_Ix2 (m := 0) HQ.out (Below.refl _ _) k hlt'
          obtain ⟨b'', off'', rfl, hbl'', c0'', k0''⟩ := rd_Ix2 (m := 0) HP.out (Below.refl _ _) k hlt''
          obtain ⟨w0, w1⟩ := HW.out k hlt
          obtain ⟨d0, d1⟩ := HC.out k hlt
          by_cases hi : inB (ix sh k) 0 (ix cs k) = true
          · have HI := inB_iff.1 hi
            have alt : ((ix ws k == 0) = true ∧ (ix sh k != 0) = true) ∨ (((ix ws k == 0) = false ∨ (ix ws k == 0) = true ∧ (ix sh k != 0) = false)) := by
              by_cases h1 : ix ws k = 0
              · by_cases h2 : 0 < ix sh k
                · exact .inl ⟨by simpa using h1, by simp; omega⟩
                · exact .inr (.inr ⟨by simpa using h1, by simp; omega⟩)
              · exact .inr (.inl (by simpa using h1))
            rcases alt with ⟨hz0, hz1⟩ | alt
            · have HN : Hid (¬ okI ws cs sh k) := fun h => h.2 ⟨by simpa using hz0, by simp at hz1; omega⟩
              go_wp2_with (go_at_call 45; refine (within_any _ _ _ _).mono ?_; rintro e w' ⟨rfl, rfl⟩)
              go_ret
              exact ⟨⟨false, rfl, by rw [HV.out]; exact ⟨fun h => (by cases h), fun h => absurd (h.1 k hlt) HN.out⟩⟩, Below.refl _ _⟩
            · have HN : Hid (okI ws cs sh k) := ⟨HI, fun h => by
                rcases alt with h' | ⟨_, h'⟩
                · simp [h.1] at h'
                · simp at h'; omega⟩
              have e1 : totalOf n ws cs - sumTo sh (k + 1) = totalOf n ws cs - sumTo sh k - ix sh k := by rw [sumTo]; omega
              have E1 := Lib.hid e1
              clear e1
              rcases alt with hz2 | ⟨hz0, hz2⟩
              all_goals
                go_wp2_with (go_at_call 45; refine (within_any _ _ _ _).mono ?_; rintro e w' ⟨rfl, rfl⟩)
                go_round
                case rel =>
                  refine ⟨k + 1, by omega, by go_num, by rw [E1.out], ?_⟩
                  unfold Hid
                  intro j h
                  by_cases e : j = k
                  · subst e; exact HN.out
                  · exact HE.out j (by omega)
                case measure => simp [intOf]; omega
          · have hi' : inB (ix sh k) 0 (ix cs k) = false := by simpa using hi
            have HN : Hid (¬ okI ws cs sh k) := fun h => hi (inB_iff.2 h.1)
            clear hi
            go_wp2_with (go_at_call 45; refine (within_any _ _ _ _).mono ?_; rintro e w' ⟨rfl, rfl⟩)
            go_ret
            exact ⟨⟨false, rfl, by rw [HV.out]; exact ⟨fun h => (by cases h), fun h => absurd (h.1 k hlt) HN.out⟩⟩, Below.refl _ _⟩
        · obtain rfl : k = ws.length := by omega
          have hnl : sh.length ≤ ws.length := by rw [HLs.out]; exact Nat.le_refl _
          by_cases ht : sumTo sh ws.length = totalOf n ws cs
          · have HT := Lib.hid ht
            have ht' : ((totalOf n ws cs - sumTo sh ws.length) != 0) = false := by simp; omega
            clear ht
            go_wp2
            clear ht'
            go_loopw [12, 13, 14, 15, 62] (fun _ _ _ _ i wr => ∃ k : Nat, k ≤ ws.length ∧ i = .int .i64 k ∧ Hid (∀ j, j < k → ∀ m, m < ws.length → ¬ badI ws cs sh j m) ∧ Hid (Below w.heap.size w wr)) (fun _ _ _ _ i _ => ws.length - (intOf i).toNat)
            case atStart => exact ⟨0, by omega, rfl, by unfold Hid; omega, by unfold Hid; exact Below.refl _ _⟩
            case round =>
              obtain ⟨k, hk, rfl, HG, HB⟩ := hrel
              by_cases hlt : k < ws.length
              · have hlt' : k < cs.length := by have := HL.out; omega
                have hlt'' : k < sh.length := by have := HLs.out; omega
                obtain ⟨b, off, rfl, hbl, c0, k0⟩ := rd_Ix2 (m := 0) HR.out HB.out k hlt
                obtain ⟨b', off', rfl, hbl', c0', k0'⟩ := rd_Ix2 (m := 0) HQ.out HB.out k hlt'
                obtain ⟨b'', off'', rfl, hbl'', c0'', k0''⟩ := rd_Ix2 (m := 0) HP.out HB.out k hlt''
                obtain ⟨w0, w1⟩ := HW.out k hlt
                obtain ⟨d0, d1⟩ := HC.out k hlt
                obtain ⟨HI, _⟩ := HE.out k hlt
                go_wp2
                go_loopw [14, 15, 69] (fun _ _ m wr2 => ∃ j : Nat, j ≤ ws.length ∧ m = .int .i64 j ∧ Hid (∀ j', j' < j → ¬ badI ws cs sh k j') ∧ Hid (Below w.heap.size w wr2)) (fun _ _ m _ => ws.length - (intOf m).toNat)
                case atStart => exact ⟨0, by omega, rfl, by unfold Hid; omega, HB⟩
                case round =>
                  obtain ⟨j, hj, rfl, HJ, HB2⟩ := hrel
                  by_cases hjlt : j < ws.length
                  · have hjlt' : j < cs.length := by have := HL.out; omega
                    have hjlt'' : j < sh.length := by have := HLs.out; omega
                    clear c0 c0' c0''
                    obtain ⟨_, _, hh1, _, c0, _⟩ := rd_Ix2 (m := 0) HR.out HB2.out k hlt
                    injection hh1 with hh1; injection hh1 with hh1 hh1'; subst hh1 hh1'
                    obtain ⟨_, _, hh1, _, c0', _⟩ := rd_Ix2 (m := 0) HQ.out HB2.out k hlt'
                    injection hh1 with hh1; injection hh1 with hh1 hh1'; subst hh1 hh1'
                    obtain ⟨_, _, hh1, _, c0'', _⟩ := rd_Ix2 (m := 0) HP.out HB2.out k hlt''
                    injection hh1 with hh1; injection hh1 with hh1 hh1'; subst hh1 hh1'
                    obtain ⟨_, _, hh1, _, g0, _⟩ := rd_Ix2 (m := 0) HR.out HB2.out j hjlt
                    injection hh1 with hh1; injection hh1 with hh1 hh1'; subst hh1 hh1'
                    obtain ⟨_, _, hh1, _, g0', _⟩ := rd_Ix2 (m := 0) HQ.out HB2.out j hjlt'
                    injection hh1 with hh1; injection hh1 with hh1 hh1'; subst hh1 hh1'
                    obtain ⟨_, _, hh1, _, g0'', _⟩ := rd_Ix2 (m := 0) HP.out HB2.out j hjlt''
                    injection hh1 with hh1; injection hh1 with hh1 hh1'; subst hh1 hh1'
                    obtain ⟨w0', w1'⟩ := HW.out j hjlt
                    obtain ⟨d0', d1'⟩ := HC.out j hjlt
                    obtain ⟨⟨x0, x1⟩, _⟩ := HE.out j hjlt
                    have m1 := mul_small (a := ix sh k + 1) (b := ix ws j) (by omega) (by omega) (by omega) (by omega)
                    have m2 := mul_small' (a := ix sh j - 1) (b := ix ws k) (by omega) (by omega) (by omega) (by omega)
                    have m3 : IntKind.i64.wrap ((ix sh k + 1) * ix ws j) = (ix sh k + 1) * ix ws j := IntWalk.i64_in _ (by omega)
                    have m4 : IntKind.i64.wrap ((ix sh j - 1) * ix ws k) = (ix sh j - 1) * ix ws k := IntWalk.i64_in _ (by omega)
                    have cases6 : (Hid (¬ badI ws cs sh k j) ∧ (((k : Int) != (j : Int)) = false ∨ ((k : Int) != (j : Int)) = true ∧ (decide (0 < ix ws k) = false ∨ decide (0 < ix ws k) = true ∧ (decide (0 < ix ws j) = false ∨ decide (0 < ix ws j) = true ∧ (decide (ix sh k < ix cs k) = false ∨ decide (ix sh k < ix cs k) = true ∧ decide ((ix sh k + 1) * ix ws j < (ix sh j - 1) * ix ws k) = false))))) ∨
                        Hid (badI ws cs sh k j) ∧ ((k : Int) != (j : Int)) = true ∧ decide (0 < ix ws k) = true ∧ decide (0 < ix ws j) = true ∧ decide (ix sh k < ix cs k) = true ∧ decide ((ix sh k + 1) * ix ws j < (ix sh j - 1) * ix ws k) = true := by
                      unfold Hid badI
                      by_cases q1 : j = k
                      · exact .inl ⟨fun h => h.1 q1, .inl (by subst q1; simp)⟩
                      have q1' : ((k : Int) != (j : Int)) = true := by simp; omega
                      by_cases q2n : ¬ (0 < ix ws k)
                      · exact .inl ⟨fun h => q2n h.2.1, .inr ⟨q1', .inl (by simpa using q2n)⟩⟩
                      have q2 : 0 < ix ws k := Decidable.not_not.1 q2n
                      by_cases q3n : ¬ (0 < ix ws j)
                      · exact .inl ⟨fun h => q3n h.2.2.1, .inr ⟨q1', .inr ⟨by simpa using q2, .inl (by simpa using q3n)⟩⟩⟩
                      have q3 : 0 < ix ws j := Decidable.not_not.1 q3n
                      by_cases q4n : ¬ (ix sh k < ix cs k)
                      · exact .inl ⟨fun h => q4n h.2.2.2.1, .inr ⟨q1', .inr ⟨by simpa using q2, .inr ⟨by simpa using q3, .inl (by simpa using q4n)⟩⟩⟩⟩
                      have q4 : ix sh k < ix cs k := Decidable.not_not.1 q4n
                      by_cases q6 : (ix sh k + 1) * ix ws j < (ix sh j - 1) * ix ws k
                      · exact .inr ⟨⟨q1, q2, q3, q4, ⟨x0, x1⟩, q6⟩, q1', by simpa using q2, by simpa using q3, by simpa using q4, by simpa using q6⟩
                      · exact .inl ⟨fun h => q6 h.2.2.2.2.2, .inr ⟨q1', .inr ⟨by simpa using q2, .inr ⟨by simpa using q3, .inr ⟨by simpa using q4, by simpa using q6⟩⟩⟩⟩⟩
                    rcases cases6 with ⟨HBad, alt⟩ | ⟨HBad, q1, q2, q3, q4, q6⟩
                    · rcases alt with q1 | ⟨q1, q2 | ⟨q2, q3 | ⟨q3, q4 | ⟨q4, q6⟩⟩⟩⟩
                      all_goals
                        go_wp2_with fail
                        go_quiet (fail)
                        go_wp2
                        go_roundw
                        case rel => 
                          refine ⟨j + 1, by omega, by go_num, ?_, belowN HB2.out _⟩
                          unfold Hid
                          intro i hi
                          by_cases e : i = j
                          · subst e; exact HBad.out
                          · exact HJ.out i (by omega)
                        case measure => simp [intOf]; omega
                    · go_wp2_with fail
                      go_quiet (fail)
                      go_wp2
                      go_ret
                      exact ⟨⟨false, rfl, by rw [HV.out]; exact ⟨fun h => (by cases h), fun h => absurd HBad.out (h.2.1 k hlt j hjlt)⟩⟩, belowN HB2.out _⟩
                  · obtain rfl : j = ws.length := by omega
                    clear c0 c0' c0''
                    go_wp2
                    go_roundw
                    case rel => 
                      refine ⟨k + 1, by omega, by go_num, ?_, HB2⟩
                      unfold Hid
                      intro j h
                      by_cases e : j = k
                      · subst e; exact HJ.out
                      · exact HG.out j (by omega)
                    case measure => simp [intOf]; omega
              · obtain rfl : k = ws.length := by omega
                go_wp2
                go_ret
                exact ⟨⟨true, rfl, by rw [HV.out]; exact ⟨fun _ => ⟨HE.out, HG.out, HT.out⟩, fun _ => rfl⟩⟩, HB.out⟩
          · have HT := Lib.hid ht
            have ht' : ((totalOf n ws cs - sumTo sh ws.length) != 0) = true := by simp; omega
            clear ht
            go_wp2
            go_ret
            exact ⟨.inl ⟨rfl, fun h => absurd ((HV.out.1 h).2.2) HT.out⟩, Below.refl _ _⟩
    · have hb0 : ((sh.length : Int) != (ws.length : Int)) = true := by simp; omega
      have HV : Hid (¬ FairP n ws cs sh) := fun h => hlen h.2.1
      clear hlen
      go_enter Try.func43, Try.ntmps43
      go_wp2_with fail
      refine (implTotal_any n ws cs _ _ o o' F G _ hr hq).mono ?_
      rintro e w' ⟨rfl, rfl⟩
      go_wp2
      go_ret
      exact ⟨⟨false, rfl, fun h => (by cases h), fun h => absurd h HV.out⟩, Below.refl _ _⟩
  · have hs' : totalOf n ws cs = -1 := by unfold totalOf; rw [if_neg hs]
    have HV : Hid (¬ FairP n ws cs sh) := fun h => hs h.1
    clear hs
    have HT := Lib.hid hs'
    clear hs'
    go_enter Try.func43, Try.ntmps43
    go_wp2_with fail
    refine (implTotal_any n ws cs _ _ o o' F G _ hr hq).mono ?_
    rintro e w' ⟨rfl, rfl⟩
    rw [HT.out]
    go_wp2
    go_ret
    exact ⟨⟨false, rfl, fun h => (by cases h), fun h => absurd h HV.out⟩, Below.refl _ _⟩
end Go.Proofs.Ytbdegifmcppciaa
