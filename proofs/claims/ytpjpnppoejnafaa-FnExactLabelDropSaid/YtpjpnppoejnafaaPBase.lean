/-
  Plain facts under the laws: wraps, sizes that are counted down, marks.
-/
import Derived.Test.YtpjpnppoejnafaaG0
import Derived.Test.YtpjpnppoejnafaaG42
namespace Go.Proofs.Ytpjpnppoejnafaa.G
open Go.RowKit Go.Proofs.YtpjpnppoejnafaaW.PrintWords Go.Proofs.YtpjpnppoejnafaaW.PrintLast Go.Proofs.YtpjpnppoejnafaaW.PrintMore
set_option linter.unusedVariables false

theorem w64 {x : Int} (h : -9223372036854775808 ≤ x) (h' : x ≤ 9223372036854775807) : wrap64 x = x := by unfold wrap64; omega
theorem ev_if_pos {α : Type} {c : Prop} [Decidable c] {g f : Nat → Option α} {r : α} (h : c) (k : Ev g r) : Ev (fun n => if c then g n else f n) r := Ev.congr (fun n => if_pos h) k
theorem ev_if_neg {α : Type} {c : Prop} [Decidable c] {g f : Nat → Option α} {r : α} (h : ¬ c) (k : Ev f r) : Ev (fun n => if c then g n else f n) r := Ev.congr (fun n => if_neg h) k
theorem ev_some {α : Type} {a r : α} (h : a = r) : Ev (fun _ => some a) r := h ▸ Ev.now r
theorem ev_uniq {α : Type} {g : Nat → Option α} {a b : α} (h : Ev g a) (k : Ev g b) : a = b := by
  obtain ⟨K, h⟩ := h
  obtain ⟨L, k⟩ := k
  exact Option.some.inj ((h (K + L) (by omega)).symm.trans (k (K + L) (by omega)))
theorem ev_rw {α : Type} {g : Nat → Option α} {a b : α} (h : Ev g a) (e : a = b) : Ev g b := e ▸ h
theorem ev_now {α : Type} {o : Option α} {r : α} (h : o = some r) : Ev (fun _ => o) r := by rw [h]; exact Ev.now r

theorem take_set_succ {α : Type} (ys : List α) (i : Nat) (h : i < ys.length) (a : α) : (ys.set i a).take (i + 1) = ys.take i ++ [a] := by
  rw [List.take_succ_eq_append_getElem (by simpa using h), List.take_set_of_le (Nat.le_refl i), List.getElem_set_self]
theorem if_eq {α : Type} {c : Prop} [Decidable c] {a a' b : α} (h : a = a') : (if c then a else b) = if c then a' else b := by rw [h]

/-- A size is taken off what is left; -1 where it is more. -/
def szR (left : Int) (tot : Nat) : Int := if (tot : Int) ≤ left then left - tot else -1
theorem szR_nonneg {left : Int} {tot : Nat} (h : 0 ≤ szR left tot) : (tot : Int) ≤ left := by unfold szR at h; split at h <;> omega
theorem szR_add {left : Int} (h : 0 ≤ left) (a b : Nat) : szR left (a + b) = if szR left a < 0 then -1 else szR (szR left a) b := by
  unfold szR
  by_cases h1 : (a : Int) ≤ left
  · simp only [if_pos h1]
    rw [if_neg (by omega : ¬ left - (a : Int) < 0)]
    by_cases h2 : ((a + b : Nat) : Int) ≤ left
    · rw [if_pos h2, if_pos (by omega)]; omega
    · rw [if_neg h2, if_neg (by omega)]
  · simp only [if_neg h1]
    rw [if_neg (by omega : ¬ ((a + b : Nat) : Int) ≤ left), if_pos (by omega)]
theorem szR_le {left : Int} (h : 0 ≤ left) (a : Nat) : szR left a ≤ left ∧ -1 ≤ szR left a := by unfold szR; split <;> omega
theorem szR_neg {left : Int} {a : Nat} (h : left < a) : szR left a = -1 := by unfold szR; rw [if_neg (by omega)]
theorem szR_pos {left : Int} {a : Nat} (h : (a : Int) ≤ left) : szR left a = left - a := by unfold szR; rw [if_pos h]
theorem szR_zero {left : Int} (h : 0 ≤ left) : szR left 0 = left := by rw [szR_pos (by simpa using h)]; simp

/-! ### markText -/
theorem digit_size (x : Int) : (strOfNums [x]).size = 1 := by simp [strOfNums, ByteArray.size]
theorem markText_l0 : ∀ (d : Nat) (n : Int) (s : ByteArray), 0 ≤ n → n.toNat ≤ d → s.size + d ≤ 4611686018427387904 → ∃ r, Ev (fun k => laws_markText.l0 k n s) r
  | 0, n, s, h0, hd, hs => by
    obtain rfl : n = 0 := by omega
    exact ⟨_, Ev.step (f := fun _ => some ((⟨#[109]⟩ : ByteArray) ++ s)) (fun k => by rw [laws_markText.l0, if_neg (by omega), if_pos (by omega)]) (Ev.now _)⟩
  | d + 1, n, s, h0, hd, hs => by
    by_cases hn : n > 0
    · have hq : Int.tdiv n 10 = n / 10 := Int.tdiv_eq_ediv_of_nonneg h0
      obtain ⟨r, hr⟩ := markText_l0 d (n / 10) (strOfNums [(wrap64 (48 + Int.tmod n 10)) % 256] ++ s) (by omega) (by omega) (by rw [ByteArray.size_append, digit_size]; omega)
      refine ⟨r, Ev.step (f := fun k => laws_markText.l0 k (n / 10) (strOfNums [(wrap64 (48 + Int.tmod n 10)) % 256] ++ s)) (fun k => ?_) hr⟩
      rw [laws_markText.l0, if_pos hn, Option.bind_some, if_pos (by rw [digit_size]; omega), hq]
      by_cases hb : n ≤ 9223372036854775807
      · rw [w64 (by omega) (by omega)]
      · omega
    · obtain rfl : n = 0 := by omega
      exact ⟨_, Ev.step (f := fun _ => some ((⟨#[109]⟩ : ByteArray) ++ s)) (fun k => by rw [laws_markText.l0, if_neg (by omega), if_pos (by omega)]) (Ev.now _)⟩
theorem markText_ex (n : Int) (h0 : 0 ≤ n) (h1 : n ≤ 1099511627776) : ∃ r, Ev (fun k => laws_markText.f k n) r := by
  by_cases hn : n ≤ 0
  · exact ⟨_, Ev.congr (f := fun _ => some (⟨#[109, 48]⟩ : ByteArray)) (fun k => by rw [laws_markText.f, if_pos hn]) (Ev.now _)⟩
  · obtain ⟨r, hr⟩ := markText_l0 n.toNat n ⟨#[]⟩ h0 (Nat.le_refl _) (by simp [ByteArray.size]; omega)
    exact ⟨r, Ev.congr (fun k => by rw [laws_markText.f, if_neg hn]) hr⟩
open Classical in
noncomputable def mt (n : Int) : ByteArray := if h : ∃ r, Ev (fun k => laws_markText.f k n) r then h.choose else ⟨#[]⟩
theorem mt_ev (n : Int) (h0 : 0 ≤ n) (h1 : n ≤ 1099511627776) : Ev (fun k => laws_markText.f k n) (mt n) := by
  have h := markText_ex n h0 h1
  unfold mt
  rw [dif_pos h]
  exact h.choose_spec
end Go.Proofs.Ytpjpnppoejnafaa.G
