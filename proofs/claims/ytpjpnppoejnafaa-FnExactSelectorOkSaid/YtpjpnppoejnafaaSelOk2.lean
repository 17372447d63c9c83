/-
  SelectorOk: the lists.
-/
import Derived.Test.YtpjpnppoejnafaaSelOk
namespace Go.Proofs.Ytpjpnppoejnafaa
open Go.RowKit
set_option linter.unusedVariables false
set_option linter.unusedSimpArgs false
attribute [local go_sem ↓] Go.wp_at_zero Go.wp_at_succ
def badT (x : Term) : Bool := !termB x
/-- The place of the first for which p holds, from place k on; -1 if there is none. -/
def idxT (p : Term → Bool) : List Term → Nat → Int
  | [], _ => -1
  | x :: xs, k => if p x then (k : Int) else idxT p xs (k + 1)
theorem idxT_any (p : Term → Bool) : ∀ (xs : List Term) (k : Nat), (0 ≤ idxT p xs k ↔ xs.any p = true)
  | [], k => by simp [idxT]
  | x :: xs, k => by
    rw [idxT]
    by_cases h : p x = true
    · rw [if_pos h]; simp [h]
    · rw [if_neg h, idxT_any p xs (k + 1)]
      have hf : p x = false := by simpa using h
      simp [hf]
theorem idxT_pos (p : Term → Bool) (xs : List Term) : decide (0 ≤ idxT p xs 0) = xs.any p := by
  by_cases h : xs.any p = true
  · rw [h, decide_eq_true ((idxT_any p xs 0).2 h)]
  · have hf : xs.any p = false := by simpa using h
    rw [hf, decide_eq_false (fun h2 => h ((idxT_any p xs 0).1 h2))]
theorem idxT_step (p : Term → Bool) {xs : List Term} {k : Nat} (hk : k < xs.length) : (p xs[k] = true → idxT p (xs.drop k) k = k) ∧ (p xs[k] = false → idxT p (xs.drop k) k = idxT p (xs.drop (k + 1)) (k + 1)) := by
  rw [List.drop_eq_getElem_cons hk]
  constructor
  · intro h; rw [idxT, if_pos h]
  · intro h; rw [idxT, if_neg (by simp [h])]
theorem selOk1_any (x : Term) (u : Value) (o : Bool) (F : List Nat) (w : World) (hk : x.key.size ≤ 9223372036854775807) (hr : rd o w (strD x.vals) [u] F) :
    Calls Try.prog 57 #[.agg #[.int .i64 x.kind, .string x.key, u]] w fun e w' => e = .returned (.bool (badT x)) ∧ Below w.heap.size w w' := by
  obtain ⟨A, c, rfl, hn, hc, _⟩ := rd_Strs hr
  have HB := Lib.hid (belowA (Below.refl w.heap.size w) (.cells #[.int .i64 x.kind, .string x.key, .slice A x.vals.length c] 52))
  have HR := Lib.hid (rd_below hr HB.out)
  clear hr
  go_enter Try.func57, Try.ntmps57
  go_wp2_with fail
  refine (termOk_any x.kind x.key x.vals _ o F _ hk HR.out).mono ?_
  rintro e w1 ⟨rfl, hb1⟩
  have b1 := belowT HB.out hb1
  go_wp2
  go_ret
  exact ⟨rfl, b1⟩
theorem indexT_any (xs : List Term) (v : Value) (o : Bool) (F : List Nat) (w : World) (hr : rd o w (termD xs) [v] F) :
    Calls Try.prog 83 #[v, .func (.func 57) #[] #[]] w fun e w' => e = .returned (.int .i64 (idxT badT xs 0)) ∧ Below w.heap.size w w' := by
  obtain ⟨A, c, rfl, hn, hc, hx⟩ := rd_terms hr
  have HX := Lib.hid hx
  clear hx hr
  go_enter Try.func83, Try.ntmps83
  go_wp2
  go_loopw [5, 8] (fun _ i wr => ∃ k : Nat, k ≤ xs.length ∧ i = .int .i64 k ∧ Hid (idxT badT xs 0 = idxT badT (xs.drop k) k) ∧ Hid (Below w.heap.size w wr)) (fun _ i _ => xs.length - (intOf i).toNat)
  case atStart => exact ⟨0, by omega, rfl, rfl, Below.refl _ _⟩
  case round =>
    obtain ⟨k, hk, rfl, HE, HB⟩ := hrel
    by_cases hlt : k < xs.length
    · obtain ⟨b, off, u, G, rfl, hbl, c0, c1, c2, hu, _, k1⟩ := HX.out k hlt
      have d0 := below_cell HB.out c0
      have d1 := below_cell HB.out c1
      have d2 := below_cell HB.out c2
      have HU := Lib.hid (rd_below hu HB.out)
      obtain ⟨A', c', rfl, _, _, _⟩ := rd_Strs hu
      have hbw : b < wr.heap.size := by have := HB.out.size; omega
      obtain ⟨s1, s2⟩ := idxT_step badT hlt
      have S1 := Lib.hid s1
      have S2 := Lib.hid s2
      clear s1 s2 c0 c1 c2 hu
      have PA : badT xs[k] = true ∨ badT xs[k] = false := by cases badT xs[k] <;> simp
      rcases PA with hp | hp
      · go_wp2_with fail
        refine (selOk1_any xs[k] _ o G _ k1 HU.out).mono ?_
        rintro e w2 ⟨rfl, hb2⟩
        have HB2 := belowT HB.out hb2
        go_wp2
        go_ret
        exact ⟨by rw [HE.out, S1.out hp]; rfl, HB2⟩
      · go_wp2_with fail
        refine (selOk1_any xs[k] _ o G _ k1 HU.out).mono ?_
        rintro e w2 ⟨rfl, hb2⟩
        have HB2 := Lib.hid (belowT HB.out hb2)
        clear hb2
        go_wp2
        go_roundw
        case rel => exact ⟨k + 1, by omega, by go_num, by unfold Hid; rw [HE.out, S2.out hp], HB2⟩
        case measure => simp [intOf]; omega
    · obtain rfl : k = xs.length := by omega
      go_wp2
      go_ret
      exact ⟨by rw [HE.out]; simp [idxT], HB.out⟩
theorem containsT_any (xs : List Term) (v : Value) (o : Bool) (F : List Nat) (w : World) (hr : rd o w (termD xs) [v] F) :
    Calls Try.prog 56 #[v, .func (.func 57) #[] #[]] w fun e w' => e = .returned (.bool (xs.any badT)) ∧ Below w.heap.size w w' := by
  have h := idxT_pos badT xs
  have H := Lib.hid h
  clear h
  go_enter Try.func56, Try.ntmps56
  go_wp2_with fail
  refine (indexT_any xs _ o F _ hr).mono ?_
  rintro e w2 ⟨rfl, hb2⟩
  go_wp2
  go_ret
  exact ⟨by rw [← H.out]; rfl, hb2⟩
theorem any_bad (xs : List Term) : (!xs.any badT) = xs.all termB := by
  induction xs with
  | nil => rfl
  | cons x xs ih => simp only [List.any_cons, List.all_cons, Bool.not_or, ih]; simp [badT]
theorem implSelectorOk_any (xs : List Term) (v : Value) (o : Bool) (F : List Nat) (w : World) (hr : rd o w (termD xs) [v] F) :
    Calls Try.prog 25 #[v] w fun e w' => e = .returned (.bool (selB xs)) ∧ Below w.heap.size w w' := by
  obtain ⟨A, c, rfl, hn, hc, _⟩ := rd_terms hr
  by_cases hl : xs.length ≤ 8
  · have HV : Hid (selB xs = !xs.any badT) := by unfold Hid selB; rw [any_bad, decide_eq_true hl, Bool.and_true]
    go_enter Try.func25, Try.ntmps25
    go_wp2_with fail
    refine (containsT_any xs _ o F _ hr).mono ?_
    rintro e w2 ⟨rfl, hb2⟩
    go_wp2
    go_ret
    exact ⟨by rw [HV.out]; rfl, hb2⟩
  · have HV : Hid (selB xs = false) := by unfold Hid selB; simp [hl]
    go_enter Try.func25, Try.ntmps25
    go_wp2
    go_ret
    exact ⟨by rw [HV.out]; rfl, Below.refl _ _⟩
end Go.Proofs.Ytpjpnppoejnafaa
