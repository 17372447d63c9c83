/-
  The law FnExactSelectorOk, walked.
-/
import Derived.Test.YtpjpnppoejnafaaSelOk3
import Derived.Test.YtpjpnppoejnafaaTermArg
namespace Go.Proofs.Ytpjpnppoejnafaa
open Go.RowKit
set_option linter.unusedVariables false
set_option linter.unusedSimpArgs false
attribute [local go_sem ↓] Go.wp_at_zero Go.wp_at_succ
theorem all_of_take {p : Term → Bool} {xs : List Term} (h : ∀ i (hi : i < xs.length), p xs[i] = true) : xs.all p = true := by
  rw [List.all_eq_true]
  intro x hx
  obtain ⟨i, hi, rfl⟩ := List.getElem_of_mem hx
  exact h i hi
theorem all_bad {p : Term → Bool} {xs : List Term} {k : Nat} (hk : k < xs.length) (h : p xs[k] = false) : xs.all p = false := by
  cases hh : xs.all p with
  | false => rfl
  | true =>
    rw [List.all_eq_true] at hh
    have := hh _ (List.getElem_mem hk)
    rw [h] at this; cases this
theorem specSelectorOk_any (xs : List Term) (v : Value) (o : Bool) (F : List Nat) (w : World) (hr : rd o w (termD xs) [v] F) :
    Calls Try.prog 23 #[v] w fun e w' => e = .returned (.bool (selB xs)) ∧ Below w.heap.size w w' := by
  obtain ⟨A, c, rfl, hn, hc, hx⟩ := rd_terms hr
  have HX := Lib.hid hx
  clear hx hr
  go_enter Try.func23, Try.ntmps23
  go_wp2
  go_loopw [3] (fun i wr => ∃ k : Nat, k ≤ xs.length ∧ i = .int .i64 k ∧ Hid (∀ i (hi : i < xs.length), i < k → termB xs[i] = true) ∧ Hid (Below w.heap.size w wr)) (fun i _ => xs.length - (intOf i).toNat)
  case atStart => exact ⟨0, by omega, rfl, by unfold Hid; omega, Below.refl _ _⟩
  case round =>
    obtain ⟨k, hk, rfl, HE, HB⟩ := hrel
    by_cases hlt : k < xs.length
    · obtain ⟨b, off, u, G, rfl, hbl, c0, c1, c2, hu, _, k1⟩ := HX.out k hlt
      have d0 := below_cell HB.out c0
      have d1 := below_cell HB.out c1
      have d2 := below_cell HB.out c2
      have HU := Lib.hid (rd_below hu HB.out)
      obtain ⟨A', c', rfl, _, _, _⟩ := rd_Strs hu
      have hbw : b < wr.heap.size := by have := HB.out.size; omega
      clear c0 c1 c2 hu
      have PA : termB xs[k] = true ∨ termB xs[k] = false := by cases termB xs[k] <;> simp
      rcases PA with hp | hp
      · go_wp2_with fail
        refine (l2Term_any xs[k].kind xs[k].key xs[k].vals _ o G _ k1 HU.out).mono ?_
        rintro e w2 ⟨rfl, hb2⟩
        have HB2 := Lib.hid (belowT HB.out hb2)
        clear hb2
        go_wp2
        go_roundw
        case rel =>
          refine ⟨k + 1, by omega, by go_num, ?_, HB2⟩
          intro i hi hik
          by_cases e : i = k
          · subst e; exact hp
          · exact HE.out i hi (by omega)
        case measure => simp [intOf]; omega
      · have HV : Hid (selB xs = false) := by unfold Hid selB; rw [all_bad hlt hp]; rfl
        go_wp2_with fail
        refine (l2Term_any xs[k].kind xs[k].key xs[k].vals _ o G _ k1 HU.out).mono ?_
        rintro e w2 ⟨rfl, hb2⟩
        have HB2 := belowT HB.out hb2
        go_wp2
        go_ret
        exact ⟨by rw [HV.out]; rfl, HB2⟩
    · obtain rfl : k = xs.length := by omega
      have HV : Hid (selB xs = decide (xs.length ≤ 8)) := by unfold Hid selB; rw [all_of_take (fun i hi => HE.out i hi hi)]; rfl
      go_wp2
      go_ret
      exact ⟨by rw [HV.out]; simp; omega, HB.out⟩
theorem law_SelectorOk (xs : List Term) (v : Value) (F : List Nat) (w : World) (hr : rd false w (termD xs) [v] F) :
    Calls Try.prog 6 #[v] w fun e w' => e = .returned (.bool true) ∧ Below w.heap.size w w' := by
  go_enter Try.func6, Try.ntmps6
  go_wp2_with fail
  refine (szTermS_any xs _ F _ _ (by omega) (by omega) hr).mono ?_
  rintro e w1 ⟨⟨sz, rfl, z0, z1, hsm⟩, hb1⟩
  by_cases hneg : sz < 0
  · clear hsm
    go_wp2
    go_ret
    exact ⟨rfl, hb1⟩
  · have HS := Lib.hid (hsm (by omega))
    clear hsm
    go_wp2_with fail
    refine (toTermS_any xs _ F _ (rd_below hr hb1) HS.out).mono ?_
    rintro e w2 ⟨⟨u2, G2, rfl, hr2, hf2⟩, hb2⟩
    go_wp2_with fail
    refine (specSelectorOk_any xs _ _ _ _ hr2).mono ?_
    rintro e w3 ⟨rfl, hb3⟩
    have b3 := belowT (belowT hb1 hb2) hb3
    go_wp2_with fail
    refine (toTermS_any xs _ F _ (rd_below hr b3) HS.out).mono ?_
    rintro e w4 ⟨⟨u4, G4, rfl, hr4, hf4⟩, hb4⟩
    go_wp2_with fail
    refine (implSelectorOk_any xs _ _ _ _ hr4).mono ?_
    rintro e w5 ⟨rfl, hb5⟩
    have b5 := belowT (belowT b3 hb4) hb5
    go_wp2_with fail
    refine (toTermS_any xs _ F _ (rd_below hr b5) HS.out).mono ?_
    rintro e w6 ⟨⟨u6, G6, rfl, hr6, hf6⟩, hb6⟩
    go_wp2_with fail
    refine (eqTermS_same xs _ _ _ _ _ _ _ (rd_below hr4 (belowT hb5 hb6)) hr6).mono ?_
    rintro e w7 ⟨rfl, hb7⟩
    go_wp2
    go_ret
    exact ⟨rfl, belowT (belowT b5 hb6) hb7⟩
end Go.Proofs.Ytpjpnppoejnafaa
