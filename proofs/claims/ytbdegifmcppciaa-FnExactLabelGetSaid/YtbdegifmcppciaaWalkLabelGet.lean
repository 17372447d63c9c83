/-
  The law FnExactLabelGet, walked: it returns true for all labels and every key.
-/
import Derived.Test.YtbdegifmcppciaaLabGet
import Derived.Test.YtbdegifmcppciaaArgs
namespace Go.Proofs.Ytbdegifmcppciaa
open Go.RowKit
set_option linter.unusedVariables false
set_option linter.unusedSimpArgs false
attribute [local go_sem ↓] Go.wp_at_zero Go.wp_at_succ

theorem szList_len {α : Type} {f : α → Int → Int} {xs : List α} {left : Int} (h : 0 ≤ szList f xs left) : (xs.length : Int) ≤ left := by
  unfold szList at h
  split at h <;> omega

set_option maxHeartbeats 400000 in
theorem law_LabelGet (xs : List Label) (v : Value) (F : List Nat) (key : ByteArray) (w : World) (hr : rd false w (labD xs) [v] F) (hk : key.size ≤ 9223372036854775807) :
    Calls Try.prog 11 #[v, .string key] w fun e w' => e = .returned (.bool true) ∧ Below w.heap.size w w' := by
  by_cases h1 : (1048576 : Int) < key.size
  · go_enter Try.func11, Try.ntmps11
    go_wp2
    go_ret
    exact ⟨rfl, Below.refl _ _⟩
  · by_cases h2 : szList szLab xs 1048576 < 0
    · go_enter Try.func11, Try.ntmps11
      go_wp2_with (go_at_call 33; refine (szLabelS_any xs _ F _ _ (by omega) (by omega) hr).mono ?_; rintro e w1 ⟨rfl, hb1⟩)
      go_ret
      exact ⟨rfl, hb1⟩
    · have hl : xs.length ≤ 1048576 := by have := szList_len (f := szLab) (xs := xs) (left := 1048576) (by omega); omega
      go_enter Try.func11, Try.ntmps11
      go_wp2_with fail
      refine (szLabelS_any xs _ F _ _ (by omega) (by omega) hr).mono ?_
      rintro e w1 ⟨rfl, hb1⟩
      go_wp2_with fail
      refine (toLabelS_any xs _ F _ (rd_below hr hb1) hl).mono ?_
      rintro e w2 ⟨⟨u2, G2, rfl, hr2, hf2⟩, hb2⟩
      go_wp2_with fail
      refine (specLabelGet_any xs _ _ _ key _ hr2).mono ?_
      rintro e w3 ⟨rfl, hb3⟩
      have b3 := belowT (belowT hb1 hb2) hb3
      unfold labGetV
      go_wp2_with fail
      refine (toLabelS_any xs _ F _ (rd_below hr b3) hl).mono ?_
      rintro e w4 ⟨⟨u4, G4, rfl, hr4, hf4⟩, hb4⟩
      go_wp2_with fail
      refine (implLabelGet_any xs _ _ _ key _ hr4).mono ?_
      rintro e w5 ⟨rfl, hb5⟩
      unfold labGetV
      have b5 := belowT (belowT b3 hb4) hb5
      go_wp2_with fail
      refine (toLabelS_any xs _ F _ (rd_below hr b5) hl).mono ?_
      rintro e w6 ⟨⟨u6, G6, rfl, hr6, hf6⟩, hb6⟩
      go_wp2_with fail
      refine (eqLabelS_any xs xs _ _ _ _ _ _ _ (rd_below hr4 (belowT hb5 hb6)) hr6).mono ?_
      rintro e w7 ⟨⟨bb, rfl, hbb⟩, hb7⟩
      obtain rfl : bb = true := hbb.2 rfl
      go_wp2
      go_ret
      exact ⟨rfl, belowT (belowT b5 hb6) hb7⟩
end Go.Proofs.Ytbdegifmcppciaa
