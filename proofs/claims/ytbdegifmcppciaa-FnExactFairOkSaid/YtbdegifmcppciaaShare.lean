/-
  Shares under caps: whether arguments are right; the total.
-/
import Derived.Test.YtbdegifmcppciaaIntFam
import Derived.Test.YtbdegifmcppciaaName
namespace Go.Proofs.Ytbdegifmcppciaa
open Go.RowKit
set_option linter.unusedVariables false
set_option linter.unusedSimpArgs false
attribute [local go_sem ↓] Go.wp_at_zero Go.wp_at_succ

/-- The place of the first for which p holds, from place k on; -1 if there is none. -/
def idxP {α : Type} (p : α → Bool) : List α → Nat → Int
  | [], _ => -1
  | x :: xs, k => if p x then (k : Int) else idxP p xs (k + 1)
theorem idxP_any {α : Type} (p : α → Bool) : ∀ (xs : List α) (k : Nat), (0 ≤ idxP p xs k ↔ xs.any p = true) ∧ -1 ≤ idxP p xs k ∧ idxP p xs k < (k : Int) + xs.length ∨ xs = [] ∧ idxP p xs k = -1
  | [], k => .inr ⟨rfl, rfl⟩
  | x :: xs, k => by
    left
    rw [idxP]
    by_cases h : p x = true
    · rw [if_pos h]; simp [h]; omega
    · rw [if_neg h]
      have hf : p x = false := by simpa using h
      rcases idxP_any p xs (k + 1) with ⟨h1, h2, h3⟩ | ⟨rfl, h2⟩
      · refine ⟨by rw [h1]; simp [hf], h2, ?_⟩
        simp only [List.length_cons]; omega
      · rw [h2]; simp [hf]; omega
theorem idxP_pos {α : Type} (p : α → Bool) (xs : List α) : decide (0 ≤ idxP p xs 0) = xs.any p := by
  rcases idxP_any p xs 0 with ⟨h1, _⟩ | ⟨rfl, h⟩
  · by_cases h : xs.any p = true
    · rw [h, decide_eq_true (h1.2 h)]
    · have hf : xs.any p = false := by simpa using h
      rw [hf, decide_eq_false (fun h2 => h (h1.1 h2))]
  · rw [h]; rfl
def overW (x : Int) : Bool := !inB x 0 1000
def overC (x : Int) : Bool := !inB x 0 10000
theorem over1_any (x : Int) (w : World) : Calls Try.prog 59 #[.int .i64 x] w fun e w' => e = .returned (.bool (overW x)) ∧ w = w' := by
  go_enter Try.func59, Try.ntmps59
  go_wp2_with (go_at_call 45; refine (within_any _ _ _ _).mono ?_; rintro e w' ⟨rfl, rfl⟩)
  go_ret
  exact ⟨rfl, rfl⟩
theorem over2_any (x : Int) (w : World) : Calls Try.prog 60 #[.int .i64 x] w fun e w' => e = .returned (.bool (overC x)) ∧ w = w' := by
  go_enter Try.func60, Try.ntmps60
  go_wp2_with (go_at_call 45; refine (within_any _ _ _ _).mono ?_; rintro e w' ⟨rfl, rfl⟩)
  go_ret
  exact ⟨rfl, rfl⟩
theorem idxP_step {α : Type} (p : α → Bool) {xs : List α} {k : Nat} (hk : k < xs.length) : (p xs[k] = true → idxP p (xs.drop k) k = k) ∧ (p xs[k] = false → idxP p (xs.drop k) k = idxP p (xs.drop (k + 1)) (k + 1)) := by
  rw [List.drop_eq_getElem_cons hk]
  constructor
  · intro h; rw [idxP, if_pos h]
  · intro h; rw [idxP, if_neg (by simp [h])]
theorem index1_any (xs : List Int) (v : Value) (o : Bool) (F : List Nat) (w : World) (hr : rd o w (intD xs) [v] F) :
    Calls Try.prog 65 #[v, .func (.func 59) #[] #[]] w fun e w' => e = .returned (.int .i64 (idxP overW xs 0)) ∧ w = w' := by
  obtain ⟨A, c, rfl, hn, hc, hx⟩ := rd_Ints hr
  have HX := Lib.hid hx
  clear hx hr
  go_enter Try.func65, Try.ntmps65
  go_wp2
  go_loop [5, 8] (fun _ i => ∃ k : Nat, k ≤ xs.length ∧ i = .int .i64 k ∧ Hid (idxP overW xs 0 = idxP overW (xs.drop k) k)) (fun _ i => xs.length - (intOf i).toNat)
  case atStart => exact ⟨0, by omega, rfl, rfl⟩
  case round =>
    obtain ⟨k, hk, rfl, HE⟩ := hrel
    by_cases hlt : k < xs.length
    · obtain ⟨b, off, rfl, hbl, c0, k0⟩ := HX.out k hlt
      obtain ⟨s1, s2⟩ := idxP_step overW hlt
      have S1 := Lib.hid s1
      have S2 := Lib.hid s2
      clear s1 s2
      by_cases hp : overW xs[k] = true
      · go_wp2_with (go_at_call 59; refine (over1_any _ _).mono ?_; rintro e w' ⟨rfl, rfl⟩)
        go_ret
        exact ⟨by rw [HE.out, S1.out hp]; rfl, rfl⟩
      · have hp' : overW xs[k] = false := by simpa using hp
        clear hp
        go_wp2_with (go_at_call 59; refine (over1_any _ _).mono ?_; rintro e w' ⟨rfl, rfl⟩)
        go_round
        case rel => exact ⟨k + 1, by omega, by go_num, by unfold Hid; rw [HE.out, S2.out hp']⟩
        case measure => simp [intOf]; omega
    · obtain rfl : k = xs.length := by omega
      go_wp2
      go_ret
      exact ⟨by rw [HE.out]; simp [idxP], rfl⟩
theorem index2_any (xs : List Int) (v : Value) (o : Bool) (F : List Nat) (w : World) (hr : rd o w (intD xs) [v] F) :
    Calls Try.prog 65 #[v, .func (.func 60) #[] #[]] w fun e w' => e = .returned (.int .i64 (idxP overC xs 0)) ∧ w = w' := by
  obtain ⟨A, c, rfl, hn, hc, hx⟩ := rd_Ints hr
  have HX := Lib.hid hx
  clear hx hr
  go_enter Try.func65, Try.ntmps65
  go_wp2
  go_loop [5, 8] (fun _ i => ∃ k : Nat, k ≤ xs.length ∧ i = .int .i64 k ∧ Hid (idxP overC xs 0 = idxP overC (xs.drop k) k)) (fun _ i => xs.length - (intOf i).toNat)
  case atStart => exact ⟨0, by omega, rfl, rfl⟩
  case round =>
    obtain ⟨k, hk, rfl, HE⟩ := hrel
    by_cases hlt : k < xs.length
    · obtain ⟨b, off, rfl, hbl, c0, k0⟩ := HX.out k hlt
      obtain ⟨s1, s2⟩ := idxP_step overC hlt
      have S1 := Lib.hid s1
      have S2 := Lib.hid s2
      clear s1 s2
      by_cases hp : overC xs[k] = true
      · go_wp2_with (go_at_call 60; refine (over2_any _ _).mono ?_; rintro e w' ⟨rfl, rfl⟩)
        go_ret
        exact ⟨by rw [HE.out, S1.out hp]; rfl, rfl⟩
      · have hp' : overC xs[k] = false := by simpa using hp
        clear hp
        go_wp2_with (go_at_call 60; refine (over2_any _ _).mono ?_; rintro e w' ⟨rfl, rfl⟩)
        go_round
        case rel => exact ⟨k + 1, by omega, by go_num, by unfold Hid; rw [HE.out, S2.out hp']⟩
        case measure => simp [intOf]; omega
    · obtain rfl : k = xs.length := by omega
      go_wp2
      go_ret
      exact ⟨by rw [HE.out]; simp [idxP], rfl⟩
theorem contains1_any (xs : List Int) (v : Value) (o : Bool) (F : List Nat) (w : World) (hr : rd o w (intD xs) [v] F) :
    Calls Try.prog 58 #[v, .func (.func 59) #[] #[]] w fun e w' => e = .returned (.bool (xs.any overW)) ∧ w = w' := by
  have h := idxP_pos overW xs
  have H := Lib.hid h
  clear h
  go_enter Try.func58, Try.ntmps58
  go_wp2_with (go_at_call 65; refine (index1_any xs _ o F _ hr).mono ?_; rintro e w' ⟨rfl, rfl⟩)
  go_ret
  exact ⟨by rw [← H.out]; rfl, rfl⟩
theorem contains2_any (xs : List Int) (v : Value) (o : Bool) (F : List Nat) (w : World) (hr : rd o w (intD xs) [v] F) :
    Calls Try.prog 58 #[v, .func (.func 60) #[] #[]] w fun e w' => e = .returned (.bool (xs.any overC)) ∧ w = w' := by
  have h := idxP_pos overC xs
  have H := Lib.hid h
  clear h
  go_enter Try.func58, Try.ntmps58
  go_wp2_with (go_at_call 65; refine (index2_any xs _ o F _ hr).mono ?_; rintro e w' ⟨rfl, rfl⟩)
  go_ret
  exact ⟨by rw [← H.out]; rfl, rfl⟩
def shOk (n : Int) (ws cs : List Int) : Bool := inB n 0 10000 && decide (ws.length ≤ 64) && decide (cs.length = ws.length) && !ws.any overW && !cs.any overC
theorem shOk_iff {n : Int} {ws cs : List Int} : shOk n ws cs = true ↔ (0 ≤ n ∧ n ≤ 10000) ∧ ws.length ≤ 64 ∧ cs.length = ws.length ∧ (∀ i (h : i < ws.length), 0 ≤ ws[i] ∧ ws[i] ≤ 1000) ∧ (∀ i (h : i < cs.length), 0 ≤ cs[i] ∧ cs[i] ≤ 10000) := by
  have hw : (ws.any overW = false) ↔ ∀ i (h : i < ws.length), 0 ≤ ws[i] ∧ ws[i] ≤ 1000 := by
    rw [List.any_eq_false]
    constructor
    · intro h i hi
      have := h ws[i] (List.getElem_mem hi)
      simp only [overW, Bool.not_eq_true, Bool.not_eq_false'] at this
      exact inB_iff.1 this
    · intro h x hx
      obtain ⟨i, hi, rfl⟩ := List.getElem_of_mem hx
      simp only [overW, Bool.not_eq_true, Bool.not_eq_false']
      exact inB_iff.2 (h i hi)
  have hc : (cs.any overC = false) ↔ ∀ i (h : i < cs.length), 0 ≤ cs[i] ∧ cs[i] ≤ 10000 := by
    rw [List.any_eq_false]
    constructor
    · intro h i hi
      have := h cs[i] (List.getElem_mem hi)
      simp only [overC, Bool.not_eq_true, Bool.not_eq_false'] at this
      exact inB_iff.1 this
    · intro h x hx
      obtain ⟨i, hi, rfl⟩ := List.getElem_of_mem hx
      simp only [overC, Bool.not_eq_true, Bool.not_eq_false']
      exact inB_iff.2 (h i hi)
  simp only [shOk, Bool.and_eq_true, decide_eq_true_eq, Bool.not_eq_true', hw, hc, inB_iff, and_assoc]
theorem sharesOk_any (n : Int) (ws cs : List Int) (v u : Value) (o o' : Bool) (F G : List Nat) (w : World) (hr : rd o w (intD ws) [v] F) (hq : rd o' w (intD cs) [u] G) :
    Calls Try.prog 52 #[.int .i64 n, v, u] w fun e w' => e = .returned (.bool (shOk n ws cs)) ∧ w = w' := by
  obtain ⟨A, c, rfl, hn, hc, hx⟩ := rd_Ints hr
  obtain ⟨A', c', rfl, hn', hc', hy⟩ := rd_Ints hq
  clear hx hy
  by_cases h1 : inB n 0 10000 = true
  · by_cases h2 : ws.length ≤ 64
    · by_cases h3 : cs.length = ws.length
      · have H3 := Lib.hid h3
        have h3b : ((cs.length : Int) == (ws.length : Int)) = true := by rw [h3]; simp
        have hv : shOk n ws cs = (!ws.any overW && !cs.any overC) := by unfold shOk; simp [h1, h2, h3]
        have HV := Lib.hid hv
        clear h3 hv
        by_cases h4 : ws.any overW = true
        · go_enter Try.func52, Try.ntmps52
          go_wp2_with (first | (go_at_call 45; refine (within_any _ _ _ _).mono ?_; rintro e w' ⟨rfl, rfl⟩) | (go_at_call 58; refine (contains1_any ws _ o F _ hr).mono ?_; rintro e w' ⟨rfl, rfl⟩))
          go_ret
          exact ⟨by rw [HV.out, h4]; rfl, rfl⟩
        · have h4' : ws.any overW = false := by simpa using h4
          clear h4
          go_enter Try.func52, Try.ntmps52
          go_wp2_with (first | (go_at_call 45; refine (within_any _ _ _ _).mono ?_; rintro e w' ⟨rfl, rfl⟩) | fail)
          refine (contains1_any ws _ o F _ hr).mono ?_
          rintro e w' ⟨rfl, rfl⟩
          go_wp2_with fail
          refine (contains2_any cs _ o' G _ hq).mono ?_
          rintro e w' ⟨rfl, rfl⟩
          go_wp2
          go_ret
          exact ⟨by rw [HV.out, h4']; rfl, rfl⟩
      · have h3b : ((cs.length : Int) == (ws.length : Int)) = false := by simp; omega
        have hv : shOk n ws cs = false := by unfold shOk; simp [h3]
        have HV := Lib.hid hv
        clear h3 hv
        go_enter Try.func52, Try.ntmps52
        go_wp2_with (go_at_call 45; refine (within_any _ _ _ _).mono ?_; rintro e w' ⟨rfl, rfl⟩)
        go_ret
        exact ⟨by rw [HV.out]; rfl, rfl⟩
    · have hv : shOk n ws cs = false := by unfold shOk; simp [h2]
      have HV := Lib.hid hv
      clear hv
      go_enter Try.func52, Try.ntmps52
      go_wp2_with (go_at_call 45; refine (within_any _ _ _ _).mono ?_; rintro e w' ⟨rfl, rfl⟩)
      go_ret
      exact ⟨by rw [HV.out]; rfl, rfl⟩
  · have h1' : inB n 0 10000 = false := by simpa using h1
    have hv : shOk n ws cs = false := by unfold shOk; simp [h1']
    have HV := Lib.hid hv
    clear h1 hv
    go_enter Try.func52, Try.ntmps52
    go_wp2_with (go_at_call 45; refine (within_any _ _ _ _).mono ?_; rintro e w' ⟨rfl, rfl⟩)
    go_ret
    exact ⟨by rw [HV.out]; rfl, rfl⟩
end Go.Proofs.Ytbdegifmcppciaa
