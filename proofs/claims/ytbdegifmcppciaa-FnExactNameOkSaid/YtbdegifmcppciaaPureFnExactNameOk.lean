/- The program's NameOk answers as the reference's NameOk for every string. No condition. -/
import Derived.Test.YtbdegifmcppciaaPFnExactNameOkx1
namespace Go.Proofs.Ytbdegifmcppciaa.Pure
open Go.RowKit Go.Proofs.Ytbdegifmcppciaa.PFnExactNameOk Go.Proofs.YtbdegifmcppciaaW.PrintWords Go.Proofs.YtbdegifmcppciaaW.PrintLast

def okc (c : Int) : Bool := (decide (97 ≤ c) && decide (c ≤ 122)) || (decide (48 ≤ c) && decide (c ≤ 57)) || decide (c = 45)
def fin (s : ByteArray) : Bool := decide (1 ≤ (s.size : Int)) && decide ((s.size : Int) ≤ 20) && decide (bt s 0 ≠ 45) && decide (bt s ((s.size : Int) - 1) ≠ 45)
def sc (s : ByteArray) : Nat → Int → Bool
  | 0, _ => fin s
  | d + 1, i => if okc (bt s i) = true then sc s d (i + 1) else false

theorem wrap_small {x : Int} (h0 : -9223372036854775808 ≤ x) (h1 : x ≤ 9223372036854775807) : wrap64 x = x := by
  unfold wrap64; omega

theorem l1In_eq (a b c : Int) : spec_l1In.f a b c = some (decide (b ≤ a) && decide (a ≤ c)) := by
  unfold spec_l1In.f
  by_cases h : b ≤ a <;> simp [h]
theorem within_eq (a b c : Int) : impl_within.f a b c = some (decide (b ≤ a) && decide (a ≤ c)) := by
  unfold impl_within.f
  by_cases h : b ≤ a <;> simp [h]

theorem spec_end (s : ByteArray) (hn : s.size ≤ 140737488351232) (k : Nat) (i : Int) (hi : i = s.size) : spec_NameOk.l0 (k + 1) s i = some (fin s) := by
  subst hi
  simp only [spec_NameOk.l0]
  rw [if_neg (by omega), l1In_eq]
  simp only [Option.bind_some, fin]
  by_cases h : 1 ≤ (s.size : Int)
  · rw [wrap_small (x := (s.size : Int) - 1) (by omega) (by omega)]
    by_cases h2 : (s.size : Int) ≤ 20
    · rw [if_pos (by simp [h, h2]), if_pos (by omega)]
      by_cases h3 : bt s 0 = 45
      · rw [if_pos h3]; simp [h3]
      · rw [if_neg h3, if_pos (by omega), if_pos (by omega)]
        simp [h, h2, h3]
        try omega
        try (by_cases h4 : bt s ((s.size : Int) - 1) = 45 <;> simp [h4] <;> omega)
    · rw [if_neg (by simp [h2])]; simp [h2]
  · rw [if_neg (by simp; omega)]
    have : s.size = 0 := by omega
    simp [this]

theorem impl_end (s : ByteArray) (hn : s.size ≤ 140737488351232) (k : Nat) (i : Int) (hi : i = s.size) : impl_NameOk.l0 (k + 1) s s.size i = some (fin s) := by
  rw [← spec_end s hn k i hi]
  subst hi
  simp only [spec_NameOk.l0, impl_NameOk.l0]
  simp only [Int.lt_irrefl, if_false, l1In_eq, within_eq]

theorem spec_run (s : ByteArray) (hn : s.size ≤ 140737488351232) (d : Nat) : ∀ (k : Nat) (i : Int), 0 ≤ i → (s.size : Int) - i = d → d < k → spec_NameOk.l0 k s i = some (sc s d i) := by
  induction d with
  | zero =>
    intro k i h0 hd hk
    obtain ⟨k, rfl⟩ : ∃ m, k = m + 1 := ⟨k - 1, by omega⟩
    exact spec_end s hn k i (by omega)
  | succ d ih =>
    intro k i h0 hd hk
    obtain ⟨k, rfl⟩ : ∃ m, k = m + 1 := ⟨k - 1, by omega⟩
    have hr := bt_range s i
    have hi := ih k (i + 1) (by omega) (by omega) (by omega)
    simp only [spec_NameOk.l0]
    rw [if_pos (by omega), if_pos h0, wrap_small (x := bt s i) (by omega) (by omega), wrap_small (x := i + 1) (by omega) (by omega), l1In_eq, l1In_eq, hi]
    simp only [Option.bind_some, sc, okc]
    by_cases a : (decide (97 ≤ bt s i) && decide (bt s i ≤ 122)) = true
    · simp [a]
    · by_cases b : (decide (48 ≤ bt s i) && decide (bt s i ≤ 57)) = true
      · simp [a, b]
      · by_cases c : bt s i = 45 <;> simp [a, b, c]

theorem impl_run (s : ByteArray) (hn : s.size ≤ 140737488351232) (d : Nat) : ∀ (k : Nat) (i : Int), 0 ≤ i → (s.size : Int) - i = d → d < k → impl_NameOk.l0 k s s.size i = some (sc s d i) := by
  induction d with
  | zero =>
    intro k i h0 hd hk
    obtain ⟨k, rfl⟩ : ∃ m, k = m + 1 := ⟨k - 1, by omega⟩
    exact impl_end s hn k i (by omega)
  | succ d ih =>
    intro k i h0 hd hk
    obtain ⟨k, rfl⟩ : ∃ m, k = m + 1 := ⟨k - 1, by omega⟩
    have hr := bt_range s i
    have hi := ih k (i + 1) (by omega) (by omega) (by omega)
    simp only [impl_NameOk.l0]
    rw [if_pos (by omega), if_pos h0, if_pos (by omega), wrap_small (x := i + 1) (by omega) (by omega), hi]
    simp only [sc, okc]
    simp only [Bool.or_eq_true, Bool.and_eq_true, decide_eq_true_eq]
    repeat' split
    all_goals first | rfl | (exfalso; omega)

theorem FnExactNameOk : laws_FnExactNameOk.Pure := by
  intro s hn
  refine ⟨s.size + 1, ?_⟩
  unfold laws_FnExactNameOk.f spec_NameOk.f impl_NameOk.f
  by_cases h : (s.size : Int) > 1048576
  · rw [if_pos h]
  · rw [if_neg h, spec_run s hn s.size _ 0 (by omega) (by omega) (by omega), impl_run s hn s.size _ 0 (by omega) (by omega) (by omega)]
    simp

end Go.Proofs.Ytbdegifmcppciaa.Pure
