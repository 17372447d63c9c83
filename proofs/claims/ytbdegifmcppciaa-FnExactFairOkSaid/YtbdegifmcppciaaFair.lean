/-
  FairOk: of the program and of the reference.
-/
import Derived.Test.YtbdegifmcppciaaTotal
namespace Go.Proofs.Ytbdegifmcppciaa
open Go.RowKit
set_option linter.unusedVariables false
set_option linter.unusedSimpArgs false
attribute [local go_sem ↓] Go.wp_at_zero Go.wp_at_succ

def ix (l : List Int) (i : Nat) : Int := l.getD i 0
theorem ix_eq {l : List Int} {i : Nat} (h : i < l.length) : ix l i = l[i] := by unfold ix; rw [List.getD_eq_getElem?_getD, List.getElem?_eq_getElem h, Option.getD_some]
def okI (ws cs sh : List Int) (i : Nat) : Prop := (0 ≤ ix sh i ∧ ix sh i ≤ ix cs i) ∧ ¬ (ix ws i = 0 ∧ 0 < ix sh i)
def badI (ws cs sh : List Int) (i k : Nat) : Prop := k ≠ i ∧ 0 < ix ws i ∧ 0 < ix ws k ∧ ix sh i < ix cs i ∧ (0 ≤ ix sh k ∧ ix sh k ≤ ix cs k) ∧ (ix sh i + 1) * ix ws k < (ix sh k - 1) * ix ws i
def sumTo (l : List Int) : Nat → Int
  | 0 => 0
  | k + 1 => sumTo l k + ix l k
def FairP (n : Int) (ws cs sh : List Int) : Prop := shOk n ws cs = true ∧ sh.length = ws.length ∧ (∀ i, i < ws.length → okI ws cs sh i) ∧ (∀ i, i < ws.length → ∀ k, k < ws.length → ¬ badI ws cs sh i k) ∧ sumTo sh ws.length = totalOf n ws cs
theorem sumTo_bound {ws cs sh : List Int} (hc : ∀ i, i < ws.length → 0 ≤ ix cs i ∧ ix cs i ≤ 10000) : ∀ k, k ≤ ws.length → (∀ i, i < k → okI ws cs sh i) → 0 ≤ sumTo sh k ∧ sumTo sh k ≤ 10000 * k
  | 0, _, _ => by simp [sumTo]
  | k + 1, hk, h => by
    obtain ⟨i1, i2⟩ := sumTo_bound hc k (by omega) (fun i hi => h i (by omega))
    have h1 := (h k (by omega)).1
    have h2 := hc k (by omega)
    rw [sumTo]; omega
theorem mul_small {a b : Int} (ha : 0 ≤ a) (ha' : a ≤ 20000) (hb : 0 ≤ b) (hb' : b ≤ 1000) : 0 ≤ a * b ∧ a * b ≤ 20000000 :=
  ⟨Int.mul_nonneg ha hb, by have := Int.mul_le_mul ha' hb' hb (by omega); omega⟩
theorem mul_small' {a b : Int} (ha : -1 ≤ a) (ha' : a ≤ 20000) (hb : 0 ≤ b) (hb' : b ≤ 1000) : -1000 ≤ a * b ∧ a * b ≤ 20000000 := by
  by_cases h : 0 ≤ a
  · have := mul_small h ha' hb hb'; omega
  · obtain rfl : a = -1 := by omega
    omega
theorem rd_Ix {o : Bool} {w : World} {xs : List Int} {v : Value} {F : List Nat} (h : rd o w (intD xs) [v] F) :
    ∃ A c, v = .slice A xs.length c ∧ xs.length ≤ c ∧ c ≤ 9223372036854775807 ∧
      ∀ i, i < xs.length → ∃ b off, A = some ⟨b, off, none⟩ ∧ b < w.heap.size ∧ w.cell? ⟨b, off + i, none⟩ = some (.int .i64 (ix xs i)) ∧ -9223372036854775808 ≤ ix xs i ∧ ix xs i ≤ 9223372036854775807 := by
  obtain ⟨A, c, h1, h2, h3, h4⟩ := rd_Ints h
  refine ⟨A, c, h1, h2, h3, fun i hi => ?_⟩
  rw [ix_eq hi]
  exact h4 i hi
theorem rd_Ix2 {o : Bool} {w w' : World} {xs : List Int} {A : Option Addr} {n c : Nat} {F : List Nat} {m : Nat} (h : rd o w (intD xs) [.slice A n c] F) (hb : Below w.heap.size w w') :
    ∀ i, i < xs.length → ∃ b off, A = some ⟨b, off, none⟩ ∧ b < w'.heap.size ∧ w'.cell? ⟨b, off + i, none⟩ = some (.int .i64 (ix xs i)) ∧ -9223372036854775808 ≤ ix xs i ∧ ix xs i ≤ 9223372036854775807 := by
  obtain ⟨A', c', h1, _, _, h4⟩ := rd_Ix (rd_below h hb)
  cases h1
  exact h4
local macro "qspec" : tactic => `(tactic| go_quiet ((go_at_call 44; exact Calls.quiet_of_same ((l1In_any _ _ _ _).mono fun _ _ h => ⟨h.1, h.2.symm⟩))))
set_option maxHeartbeats 4000000 in
set_option maxRecDepth 8000 in
theorem specFairOk_any (n : Int) (ws cs sh : List Int) (v u t : Value) (o o' o'' : Bool) (F G H : List Nat) (w : World) (hr : rd o w (intD ws) [v] F) (hq : rd o' w (intD cs) [u] G) (hp : rd o'' w (intD sh) [t] H) :
    Calls Try.prog 42 #[.int .i64 n, v, u, t] w fun e w' => (∃ b, e = .returned (.bool b) ∧ (b = true ↔ FairP n ws cs sh)) ∧ Below w.heap.size w w' := by
  obtain ⟨A, c, rfl, hn, hc, _⟩ := rd_Ix hr
  obtain ⟨A', c', rfl, hn', hc', _⟩ := rd_Ix hq
  obtain ⟨A'', c'', rfl, hn'', hc'', _⟩ := rd_Ix hp
  by_cases hs : shOk n ws cs = true
  · by_cases hlen : sh.length = ws.length
    · obtain ⟨⟨n0, n1⟩, l1, l2, hww, hcc⟩ := shOk_iff.1 hs
      have hC : ∀ i, i < ws.length → 0 ≤ ix cs i ∧ ix cs i ≤ 10000 := fun i hi => by rw [ix_eq (by omega)]; exact hcc i (by omega)
      have hW : ∀ i, i < ws.length → 0 ≤ ix ws i ∧ ix ws i ≤ 1000 := fun i hi => by rw [ix_eq (by omega)]; exact hww i (by omega)
      have HL := Lib.hid l2
      have HLs := Lib.hid hlen
      have HC := Lib.hid hC
      have HW := Lib.hid hW
      have HR := Lib.hid hr
      have HQ := Lib.hid hq
      have HP := Lib.hid hp
      have he : ((sh.length : Int) != (ws.length : Int)) = false := by rw [hlen]; simp
      have hb0 : ((sh.length : Int) == (ws.length : Int)) = true := by rw [hlen]; simp
      have HV : Hid (FairP n ws cs sh ↔ (∀ i, i < ws.length → okI ws cs sh i) ∧ (∀ i, i < ws.length → ∀ k, k < ws.length → ¬ badI ws cs sh i k) ∧ sumTo sh ws.length = totalOf n ws cs) := ⟨fun h => h.2.2, fun h => ⟨hs, hlen, h⟩⟩
      clear hr hq hp l2 hcc hww hC hW hlen
      go_enter Try.func42, Try.ntmps42
      go_wp2_with fail
      refine (l6Right_any n ws cs _ _ o o' F G _ HR.out HQ.out).mono ?_
      rintro e w' ⟨rfl, rfl⟩
      go_wp2
      have B0 := Lib.hid (Below.refl w.heap.size w)
      go_loopw [9, 10, 11] (fun s i _ wr => ∃ k : Nat, k ≤ ws.length ∧ i = .int .i64 k ∧ s = .int .i64 (sumTo sh k) ∧ Hid ((∀ j, j < k → okI ws cs sh j) ∧ ∀ j, j < k → ∀ m, m < ws.length → ¬ badI ws cs sh j m) ∧ Hid (Below w.heap.size w wr)) (fun _ i _ _ => ws.length - (intOf i).toNat)
      case atStart => exact ⟨0, by omega, rfl, rfl, by unfold Hid; exact ⟨by omega, by omega⟩, B0⟩
      case round =>
        obtain ⟨k, hk, rfl, rfl, HE, HB⟩ := hrel
        obtain ⟨b0, b1⟩ := sumTo_bound HC.out k hk HE.out.1
        by_cases hlt : k < ws.length
        · have hlt' : k < cs.length := by have := HL.out; omega
          have hlt'' : k < sh.length := by have := HLs.out; omega
          obtain ⟨b, off, rfl, hbl, c0, k0⟩ := rd_Ix2 (m := 0) HR.out HB.out k hlt
          obtain ⟨b', off', rfl, hbl', c0', k0'⟩ := rd_Ix2 (m := 0) HQ.out HB.out k hlt'
          obtain ⟨b'', off'', rfl, hbl'', c0'', k0''⟩ := rd_Ix2 (m := 0) HP.out HB.out k hlt''
          obtain ⟨w0, w1⟩ := HW.out k hlt
          obtain ⟨d0, d1⟩ := HC.out k hlt
          by_cases hi : inB (ix sh k) 0 (ix cs k) = true
          · have HI := inB_iff.1 hi
            have alt : ((ix ws k == 0) = true ∧ 0 < ix sh k) ∨ (((ix ws k == 0) = false ∨ (ix ws k == 0) = true ∧ decide (0 < ix sh k) = false)) := by
              by_cases h1 : ix ws k = 0
              · by_cases h2 : 0 < ix sh k
                · exact .inl ⟨by simpa using h1, h2⟩
                · exact .inr (.inr ⟨by simpa using h1, by simpa using h2⟩)
              · exact .inr (.inl (by simpa using h1))
            rcases alt with ⟨hz0, hz1⟩ | alt
            · have HN : Hid (¬ okI ws cs sh k) := fun h => h.2 ⟨by simpa using hz0, hz1⟩
              go_wp2_with fail
              qspec
              go_wp2
              go_ret
              exact ⟨⟨false, rfl, by rw [HV.out]; exact ⟨fun h => (by cases h), fun h => absurd (h.1 k hlt) HN.out⟩⟩, belowN HB.out _⟩
            · have HN : Hid (okI ws cs sh k) := ⟨HI, fun h => by
                rcases alt with h' | ⟨_, h'⟩
                · simp [h.1] at h'
                · simp at h'; omega⟩
              have e1 : sumTo sh (k + 1) = sumTo sh k + ix sh k := rfl
              have E1 := Lib.hid e1
              clear e1
              rcases alt with hz2 | ⟨hz0, hz2⟩
              all_goals
                go_wp2_with fail
                qspec
                go_wp2
                clear hi
                try clear hz0
                try clear hz2
                go_loopw [11] (fun m wr2 => ∃ j : Nat, j ≤ ws.length ∧ m = .int .i64 j ∧ Hid (∀ j', j' < j → ¬ badI ws cs sh k j') ∧ Hid (Below w.heap.size w wr2)) (fun m _ => ws.length - (intOf m).toNat)
                case atStart => exact ⟨0, by omega, rfl, by unfold Hid; omega, belowN HB.out _⟩
                case round =>
                  obtain ⟨j, hj, rfl, HJ, HB2⟩ := hrel
                  by_cases hjlt : j < ws.length
                  · have hjlt' : j < cs.length := by have := HL.out; omega
                    have hjlt'' : j < sh.length := by have := HLs.out; omega
                    clear c0 c0' c0''
                    obtain ⟨_, _, hh1, _, c0, _⟩ := rd_Ix2 (m := 0) HR.out HB2.out k hlt
                    injection hh1 with hh1; injection hh1 with hh1 hh1'; subst hh1 hh1'
                    obtain ⟨_, _, hh1, _, c0', _⟩ := rd_Ix2 (m := 0) HQ.out HB2.out k hlt'
                    injection hh1 with hh1; injection hh1 with hh1 hh1'; subst hh1 hh1'
                    obtain ⟨_, _, hh1, _, c0'', _⟩ := rd_Ix2 (m := 0) HP.out HB2.out k hlt''
                    injection hh1 with hh1; injection hh1 with hh1 hh1'; subst hh1 hh1'
                    obtain ⟨_, _, hh1, _, g0, _⟩ := rd_Ix2 (m := 0) HR.out HB2.out j hjlt
                    injection hh1 with hh1; injection hh1 with hh1 hh1'; subst hh1 hh1'
                    obtain ⟨_, _, hh1, _, g0', _⟩ := rd_Ix2 (m := 0) HQ.out HB2.out j hjlt'
                    injection hh1 with hh1; injection hh1 with hh1 hh1'; subst hh1 hh1'
                    obtain ⟨_, _, hh1, _, g0'', _⟩ := rd_Ix2 (m := 0) HP.out HB2.out j hjlt''
                    injection hh1 with hh1; injection hh1 with hh1 hh1'; subst hh1 hh1'
                    obtain ⟨w0', w1'⟩ := HW.out j hjlt
                    obtain ⟨d0', d1'⟩ := HC.out j hjlt
                    have cases6 : (Hid (¬ badI ws cs sh k j) ∧ (((j : Int) != (k : Int)) = false ∨ ((j : Int) != (k : Int)) = true ∧ (decide (0 < ix ws k) = false ∨ decide (0 < ix ws k) = true ∧ (decide (0 < ix ws j) = false ∨ decide (0 < ix ws j) = true ∧ (decide (ix sh k < ix cs k) = false ∨ decide (ix sh k < ix cs k) = true ∧ (inB (ix sh j) 0 (ix cs j) = false ∨ inB (ix sh j) 0 (ix cs j) = true ∧ Hid (0 ≤ ix sh j ∧ ix sh j ≤ ix cs j) ∧ decide ((ix sh k + 1) * ix ws j < (ix sh j - 1) * ix ws k) = false)))))) ∨
                        Hid (badI ws cs sh k j) ∧ ((j : Int) != (k : Int)) = true ∧ 0 < ix ws k ∧ 0 < ix ws j ∧ ix sh k < ix cs k ∧ inB (ix sh j) 0 (ix cs j) = true ∧ Hid (0 ≤ ix sh j ∧ ix sh j ≤ ix cs j) ∧ decide ((ix sh k + 1) * ix ws j < (ix sh j - 1) * ix ws k) = true := by
                      unfold Hid badI
                      by_cases q1 : j = k
                      · exact .inl ⟨fun h => h.1 q1, .inl (by subst q1; simp)⟩
                      have q1' : ((j : Int) != (k : Int)) = true := by simp; omega
                      by_cases q2n : ¬ (0 < ix ws k)
                      · exact .inl ⟨fun h => q2n h.2.1, .inr ⟨q1', .inl (by simpa using q2n)⟩⟩
                      have q2 : 0 < ix ws k := Decidable.not_not.1 q2n
                      by_cases q3n : ¬ (0 < ix ws j)
                      · exact .inl ⟨fun h => q3n h.2.2.1, .inr ⟨q1', .inr ⟨by simpa using q2, .inl (by simpa using q3n)⟩⟩⟩
                      have q3 : 0 < ix ws j := Decidable.not_not.1 q3n
                      by_cases q4n : ¬ (ix sh k < ix cs k)
                      · exact .inl ⟨fun h => q4n h.2.2.2.1, .inr ⟨q1', .inr ⟨by simpa using q2, .inr ⟨by simpa using q3, .inl (by simpa using q4n)⟩⟩⟩⟩
                      have q4 : ix sh k < ix cs k := Decidable.not_not.1 q4n
                      by_cases q5n : ¬ (inB (ix sh j) 0 (ix cs j) = true)
                      · exact .inl ⟨fun h => q5n (inB_iff.2 h.2.2.2.2.1), .inr ⟨q1', .inr ⟨by simpa using q2, .inr ⟨by simpa using q3, .inr ⟨by simpa using q4, .inl (by simpa using q5n)⟩⟩⟩⟩⟩
                      have q5 : inB (ix sh j) 0 (ix cs j) = true := Decidable.not_not.1 q5n
                      have q5' := inB_iff.1 q5
                      by_cases q6 : (ix sh k + 1) * ix ws j < (ix sh j - 1) * ix ws k
                      · exact .inr ⟨⟨q1, q2, q3, q4, q5', q6⟩, q1', q2, q3, q4, q5, q5', by simpa using q6⟩
                      · exact .inl ⟨fun h => q6 h.2.2.2.2.2, .inr ⟨q1', .inr ⟨by simpa using q2, .inr ⟨by simpa using q3, .inr ⟨by simpa using q4, .inr ⟨q5, q5', by simpa using q6⟩⟩⟩⟩⟩⟩
                    rcases cases6 with ⟨HBad, alt⟩ | ⟨HBad, q1, q2, q3, q4, q5, HQ5, q6⟩
                    · rcases alt with q1 | ⟨q1, q2 | ⟨q2, q3 | ⟨q3, q4 | ⟨q4, q5 | ⟨q5, HQ5, q6⟩⟩⟩⟩⟩
                      case' inr.inr.inr.inr.inr =>
                        obtain ⟨x0, x1⟩ := HQ5.out
                        have m1 := mul_small (a := ix sh k + 1) (b := ix ws j) (by omega) (by omega) (by omega) (by omega)
                        have m2 := mul_small' (a := ix sh j - 1) (b := ix ws k) (by omega) (by omega) (by omega) (by omega)
                        have m3 : IntKind.i64.wrap ((ix sh k + 1) * ix ws j) = (ix sh k + 1) * ix ws j := IntWalk.i64_in _ (by omega)
                        have m4 : IntKind.i64.wrap ((ix sh j - 1) * ix ws k) = (ix sh j - 1) * ix ws k := IntWalk.i64_in _ (by omega)
                      all_goals
                        go_wp2_with fail
                        qspec
                        go_wp2
                        go_roundw
                        case rel => 
                          refine ⟨j + 1, by omega, by go_num, ?_, belowN HB2.out _⟩
                          unfold Hid
                          intro i hi
                          by_cases e : i = j
                          · subst e; exact HBad.out
                          · exact HJ.out i (by omega)
                        case measure => simp [intOf]; omega
                    · obtain ⟨x0, x1⟩ := HQ5.out
                      have m1 := mul_small (a := ix sh k + 1) (b := ix ws j) (by omega) (by omega) (by omega) (by omega)
                      have m2 := mul_small' (a := ix sh j - 1) (b := ix ws k) (by omega) (by omega) (by omega) (by omega)
                      have m3 : IntKind.i64.wrap ((ix sh k + 1) * ix ws j) = (ix sh k + 1) * ix ws j := IntWalk.i64_in _ (by omega)
                      have m4 : IntKind.i64.wrap ((ix sh j - 1) * ix ws k) = (ix sh j - 1) * ix ws k := IntWalk.i64_in _ (by omega)
                      go_wp2_with fail
                      qspec
                      go_wp2
                      go_ret
                      exact ⟨⟨false, rfl, by rw [HV.out]; exact ⟨fun h => (by cases h), fun h => absurd HBad.out (h.2.1 k hlt j hjlt)⟩⟩, belowN HB2.out _⟩
                  · obtain rfl : j = ws.length := by omega
                    have hnl : sh.length ≤ ws.length := by rw [HLs.out]; exact Nat.le_refl _
                    clear c0 c0' c0''
                    go_wp2
                    go_roundw
                    case rel => 
                      refine ⟨k + 1, by omega, by go_num, by rw [E1.out], ?_, HB2⟩
                      unfold Hid
                      refine ⟨fun j h => ?_, fun j h => ?_⟩
                      · by_cases e : j = k
                        · subst e; exact HN.out
                        · exact HE.out.1 j (by omega)
                      · by_cases e : j = k
                        · subst e; exact HJ.out
                        · exact HE.out.2 j (by omega)
                    case measure => simp [intOf]; omega
          · have hi' : inB (ix sh k) 0 (ix cs k) = false := by simpa using hi
            have HN : Hid (¬ okI ws cs sh k) := fun h => hi (inB_iff.2 h.1)
            clear hi
            go_wp2_with fail
            qspec
            go_wp2
            go_ret
            exact ⟨⟨false, rfl, by rw [HV.out]; exact ⟨fun h => (by cases h), fun h => absurd (h.1 k hlt) HN.out⟩⟩, belowN HB.out _⟩
        · obtain rfl : k = ws.length := by omega
          have hnl : sh.length ≤ ws.length := by rw [HLs.out]; exact Nat.le_refl _
          have HX := Lib.hid (specTotal_any n ws cs _ _ o o' F G _ (rd_below HR.out HB.out) (rd_below HQ.out HB.out))
          by_cases ht : sumTo sh ws.length = totalOf n ws cs
          · have HT := Lib.hid ht
            have ht' : (sumTo sh ws.length == totalOf n ws cs) = true := by simpa using ht
            clear ht
            go_wp2_with fail
            refine HX.out.mono ?_
            rintro e w' ⟨rfl, rfl⟩
            go_wp2
            go_ret
            exact ⟨⟨true, rfl, by rw [HV.out]; exact ⟨fun _ => ⟨HE.out.1, HE.out.2, HT.out⟩, fun _ => rfl⟩⟩, HB.out⟩
          · have HT := Lib.hid ht
            have ht' : (sumTo sh ws.length == totalOf n ws cs) = false := by simpa using ht
            clear ht
            go_wp2_with fail
            refine HX.out.mono ?_
            rintro e w' ⟨rfl, rfl⟩
            go_wp2
            go_ret
            exact ⟨⟨false, rfl, by rw [HV.out]; exact ⟨fun h => (by cases h), fun h => absurd h.2.2 HT.out⟩⟩, HB.out⟩
    · have hb0 : ((sh.length : Int) != (ws.length : Int)) = true := by simp; omega
      have HV : Hid (¬ FairP n ws cs sh) := fun h => hlen h.2.1
      clear hlen
      go_enter Try.func42, Try.ntmps42
      go_wp2_with fail
      refine (l6Right_any n ws cs _ _ o o' F G _ hr hq).mono ?_
      rintro e w' ⟨rfl, rfl⟩
      go_wp2
      go_ret
      exact ⟨⟨false, rfl, fun h => (by cases h), fun h => absurd h HV.out⟩, Below.refl _ _⟩
  · have hs' : shOk n ws cs = false := by simpa using hs
    have HV : Hid (¬ FairP n ws cs sh) := fun h => hs h.1
    clear hs
    go_enter Try.func42, Try.ntmps42
    go_wp2_with fail
    refine (l6Right_any n ws cs _ _ o o' F G _ hr hq).mono ?_
    rintro e w' ⟨rfl, rfl⟩
    go_wp2
    go_ret
    exact ⟨⟨false, rfl, fun h => (by cases h), fun h => absurd h HV.out⟩, Below.refl _ _⟩
end Go.Proofs.Ytbdegifmcppciaa
