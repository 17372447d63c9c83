/-
  The law FnExactLabelsText, walked.
-/
import Derived.Test.YtpjpnppoejnafaaLabText
import Derived.Test.YtpjpnppoejnafaaArgs
namespace Go.Proofs.Ytpjpnppoejnafaa
open Go.RowKit
set_option linter.unusedVariables false
set_option linter.unusedSimpArgs false
set_option maxHeartbeats 400000 in
theorem law_LabelsText (xs : List Label) (v : Value) (F : List Nat) (w : World) (hr : rd false w (labD xs) [v] F) :
    Calls Try.prog 4 #[v] w fun e w' => e = .returned (.bool true) ∧ Below w.heap.size w w' := by
  by_cases h2 : szList szLab xs 1048576 < 0
  · go_enter Try.func4, Try.ntmps4
    go_wp2_with (go_at_call 11; refine (szLabelS_any xs _ F _ _ (by omega) (by omega) hr).mono ?_; rintro e w1 ⟨rfl, hb1⟩)
    go_ret
    exact ⟨rfl, hb1⟩
  · have hl : xs.length ≤ 1048576 := by have := szList_len (f := szLab) (xs := xs) (left := 1048576) (by omega); omega
    go_enter Try.func4, Try.ntmps4
    go_wp2_with fail
    refine (szLabelS_any xs _ F _ _ (by omega) (by omega) hr).mono ?_
    rintro e w1 ⟨rfl, hb1⟩
    go_wp2_with fail
    refine (toLabelS_any xs _ F _ (rd_below hr hb1) hl).mono ?_
    rintro e w2 ⟨⟨u2, G2, rfl, hr2, hf2⟩, hb2⟩
    go_wp2_with fail
    refine (specLabelsText_any xs _ _ _ _ hr2).mono ?_
    rintro e w3 ⟨rfl, hb3⟩
    have b3 := belowT (belowT hb1 hb2) hb3
    go_wp2_with fail
    refine (toLabelS_any xs _ F _ (rd_below hr b3) hl).mono ?_
    rintro e w4 ⟨⟨u4, G4, rfl, hr4, hf4⟩, hb4⟩
    go_wp2_with fail
    refine (implLabelsText_any xs _ _ _ _ hr4).mono ?_
    rintro e w5 ⟨rfl, hb5⟩
    have b5 := belowT (belowT b3 hb4) hb5
    go_wp2_with fail
    refine (toLabelS_any xs _ F _ (rd_below hr b5) hl).mono ?_
    rintro e w6 ⟨⟨u6, G6, rfl, hr6, hf6⟩, hb6⟩
    go_wp2_with fail
    refine (eqLabelS_any xs xs _ _ _ _ _ _ _ (rd_below hr4 (belowT hb5 hb6)) hr6).mono ?_
    rintro e w7 ⟨⟨bb, rfl, hbb⟩, hb7⟩
    obtain rfl : bb = true := hbb.2 rfl
    go_wp2
    go_ret
    exact ⟨rfl, belowT (belowT b5 hb6) hb7⟩
end Go.Proofs.Ytpjpnppoejnafaa
