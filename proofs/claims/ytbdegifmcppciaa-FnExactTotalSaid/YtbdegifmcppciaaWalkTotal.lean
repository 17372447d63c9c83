/-
  The law FnExactTotal, walked.
-/
import Derived.Test.YtbdegifmcppciaaTotal
import Derived.Test.YtbdegifmcppciaaArgs
namespace Go.Proofs.Ytbdegifmcppciaa
open Go.RowKit
set_option linter.unusedVariables false
set_option linter.unusedSimpArgs false
set_option maxHeartbeats 800000 in
theorem law_Total (n : Int) (ws : List Int) (v : Value) (F : List Nat) (cs : List Int) (u : Value) (G : List Nat) (w : World) (hn0 : -9223372036854775808 ≤ n ∧ n ≤ 9223372036854775807) (hr : rd false w (intD ws) [v] F) (hq : rd false w (intD cs) [u] G) :
    Calls Try.prog 10 #[.int .i64 n, v, u] w fun e w' => e = .returned (.bool true) ∧ Below w.heap.size w w' := by
  obtain ⟨A, c, rfl, hn, hc, hx⟩ := rd_Ints hr
  obtain ⟨A', c', rfl, hn', hc', hy⟩ := rd_Ints hq
  by_cases h1 : 1048576 < ws.length
  · clear hx hy
    go_enter Try.func10, Try.ntmps10
    go_wp2
    go_ret
    exact ⟨rfl, Below.refl _ _⟩
  by_cases h2 : 1048576 < cs.length
  · clear hx hy
    go_enter Try.func10, Try.ntmps10
    go_wp2
    go_ret
    exact ⟨rfl, Below.refl _ _⟩
  have hl1 : ws.length ≤ 1048576 := by omega
  have hl2 : cs.length ≤ 1048576 := by omega
  clear hx hy
  go_enter Try.func10, Try.ntmps10
  go_wp2_with fail
  refine (toIntS_any ws _ _ F _ hr hl1).mono ?_
  rintro e w1 ⟨⟨u1, G1, rfl, r1, f1⟩, hb1⟩
  go_wp2_with fail
  refine (toIntS_any cs _ _ G _ (rd_below hq hb1) hl2).mono ?_
  rintro e w2 ⟨⟨u2, G2, rfl, r2, f2⟩, hb2⟩
  go_wp2_with fail
  refine (specTotal_any n ws cs _ _ _ _ _ _ _ (rd_below r1 hb2) r2).mono ?_
  rintro e w3 ⟨rfl, rfl⟩
  have b2 := belowT hb1 hb2
  go_wp2_with fail
  refine (toIntS_any ws _ _ F _ (rd_below hr b2) hl1).mono ?_
  rintro e w4 ⟨⟨u4, G4, rfl, r4, f4⟩, hb4⟩
  have b4 := belowT b2 hb4
  go_wp2_with fail
  refine (toIntS_any cs _ _ G _ (rd_below hq b4) hl2).mono ?_
  rintro e w5 ⟨⟨u5, G5, rfl, r5, f5⟩, hb5⟩
  have b5 := belowT b4 hb5
  have r4 := rd_below r4 hb5
  go_wp2_with fail
  refine (implTotal_any n ws cs _ _ _ _ _ _ _ r4 r5).mono ?_
  rintro e w6 ⟨rfl, rfl⟩
  go_wp2_with fail
  refine (toIntS_any ws _ _ F _ (rd_below hr b5) hl1).mono ?_
  rintro e w7 ⟨⟨u7, G7, rfl, r7, f7⟩, hb7⟩
  have b7 := belowT b5 hb7
  go_wp2_with fail
  refine (eqIntS_any ws ws _ _ _ _ _ _ _ (rd_below r4 hb7) r7).mono ?_
  rintro e w8 ⟨⟨bb, rfl, hbb⟩, hb8⟩
  obtain rfl : bb = true := hbb.2 rfl
  have b8 := belowT b7 hb8
  go_wp2_with fail
  refine (toIntS_any cs _ _ G _ (rd_below hq b8) hl2).mono ?_
  rintro e w9 ⟨⟨u9, G9, rfl, r9, f9⟩, hb9⟩
  have b9 := belowT b8 hb9
  go_wp2_with fail
  refine (eqIntS_any cs cs _ _ _ _ _ _ _ (rd_below r5 (belowT (belowT hb7 hb8) hb9)) r9).mono ?_
  rintro e w10 ⟨⟨bb, rfl, hbb⟩, hb10⟩
  obtain rfl : bb = true := hbb.2 rfl
  go_wp2
  go_ret
  exact ⟨rfl, belowT b9 hb10⟩
end Go.Proofs.Ytbdegifmcppciaa
