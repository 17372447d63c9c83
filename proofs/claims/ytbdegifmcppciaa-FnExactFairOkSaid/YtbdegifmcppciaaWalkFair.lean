/-
  The law FnExactFairOk, walked.
-/
import Derived.Test.YtbdegifmcppciaaFair2
import Derived.Test.YtbdegifmcppciaaArgs
namespace Go.Proofs.Ytbdegifmcppciaa
open Go.RowKit
set_option linter.unusedVariables false
set_option linter.unusedSimpArgs false
set_option maxHeartbeats 1600000 in
theorem law_FairOk (n : Int) (ws : List Int) (v : Value) (F : List Nat) (cs : List Int) (u : Value) (G : List Nat) (sh : List Int) (t : Value) (H : List Nat) (w : World) (hn0 : -9223372036854775808 ≤ n ∧ n ≤ 9223372036854775807)
    (hr : rd false w (intD ws) [v] F) (hq : rd false w (intD cs) [u] G) (hp : rd false w (intD sh) [t] H) :
    Calls Try.prog 14 #[.int .i64 n, v, u, t] w fun e w' => e = .returned (.bool true) ∧ Below w.heap.size w w' := by
  obtain ⟨A, c, rfl, hn, hc, hx⟩ := rd_Ints hr
  obtain ⟨A', c', rfl, hn', hc', hy⟩ := rd_Ints hq
  obtain ⟨A'', c'', rfl, hn'', hc'', hz⟩ := rd_Ints hp
  clear hx hy hz
  by_cases h1 : 1048576 < ws.length
  · go_enter Try.func14, Try.ntmps14
    go_wp2
    go_ret
    exact ⟨rfl, Below.refl _ _⟩
  by_cases h2 : 1048576 < cs.length
  · go_enter Try.func14, Try.ntmps14
    go_wp2
    go_ret
    exact ⟨rfl, Below.refl _ _⟩
  by_cases h3 : 1048576 < sh.length
  · go_enter Try.func14, Try.ntmps14
    go_wp2
    go_ret
    exact ⟨rfl, Below.refl _ _⟩
  have hl1 : ws.length ≤ 1048576 := by omega
  have hl2 : cs.length ≤ 1048576 := by omega
  have hl3 : sh.length ≤ 1048576 := by omega
  go_enter Try.func14, Try.ntmps14
  go_wp2_with fail
  have b0 := Below.refl w.heap.size w
  refine (toIntS_any ws _ _ F _ (rd_below hr b0) hl1).mono ?_
  rintro e w1 ⟨⟨u1, G1, rfl, r1, f1⟩, hb1⟩
  have b1 := belowT b0 hb1
  go_wp2_with fail
  refine (toIntS_any cs _ _ G _ (rd_below hq b1) hl2).mono ?_
  rintro e w2 ⟨⟨u2, G2, rfl, r2, f2⟩, hb2⟩
  have b2 := belowT b1 hb2
  go_wp2_with fail
  refine (toIntS_any sh _ _ H _ (rd_below hp b2) hl3).mono ?_
  rintro e w3 ⟨⟨u3, G3, rfl, r3, f3⟩, hb3⟩
  have b3 := belowT b2 hb3
  go_wp2_with fail
  refine (specFairOk_any n ws cs sh _ _ _ _ _ _ _ _ _ _ (rd_below r1 (belowT hb2 hb3)) (rd_below r2 hb3) r3).mono ?_
  rintro e w4 ⟨⟨bs, rfl, hbs⟩, hb4⟩
  have b4 := belowT b3 hb4
  go_wp2_with fail
  refine (toIntS_any ws _ _ F _ (rd_below hr b4) hl1).mono ?_
  rintro e w5 ⟨⟨u5, G5, rfl, r5, f5⟩, hb5⟩
  have b5 := belowT b4 hb5
  go_wp2_with fail
  refine (toIntS_any cs _ _ G _ (rd_below hq b5) hl2).mono ?_
  rintro e w6 ⟨⟨u6, G6, rfl, r6, f6⟩, hb6⟩
  have b6 := belowT b5 hb6
  go_wp2_with fail
  refine (toIntS_any sh _ _ H _ (rd_below hp b6) hl3).mono ?_
  rintro e w7 ⟨⟨u7, G7, rfl, r7, f7⟩, hb7⟩
  have b7 := belowT b6 hb7
  go_wp2_with fail
  have r5 := rd_below r5 (belowT hb6 hb7)
  have r6 := rd_below r6 hb7
  refine (implFairOk_any n ws cs sh _ _ _ _ _ _ _ _ _ _ r5 r6 r7).mono ?_
  rintro e w8 ⟨⟨bi, rfl, hbi⟩, hb8⟩
  have b8 := belowT b7 hb8
  obtain rfl : bi = bs := by cases bi <;> cases bs <;> simp_all
  clear hbs hbi
  have r5 := rd_below r5 hb8
  have r6 := rd_below r6 hb8
  have r7 := rd_below r7 hb8
  cases bi
  all_goals
    go_wp2_with fail
    refine (toIntS_any ws _ _ F _ (rd_below hr b8) hl1).mono ?_
    rintro e w9 ⟨⟨u9, G9, rfl, r9, f9⟩, hb9⟩
    have b9 := belowT b8 hb9
    go_wp2_with fail
    refine (eqIntS_any ws ws _ _ _ _ _ _ _ (rd_below r5 hb9) r9).mono ?_
    rintro e w10 ⟨⟨bb, rfl, hbb⟩, hb10⟩
    obtain rfl : bb = true := hbb.2 rfl
    have b10 := belowT b9 hb10
    go_wp2_with fail
    refine (toIntS_any cs _ _ G _ (rd_below hq b10) hl2).mono ?_
    rintro e w11 ⟨⟨u11, G11, rfl, r11, f11⟩, hb11⟩
    have b11 := belowT b10 hb11
    go_wp2_with fail
    refine (eqIntS_any cs cs _ _ _ _ _ _ _ (rd_below r6 (belowT (belowT hb9 hb10) hb11)) r11).mono ?_
    rintro e w12 ⟨⟨bb, rfl, hbb⟩, hb12⟩
    obtain rfl : bb = true := hbb.2 rfl
    have b12 := belowT b11 hb12
    go_wp2_with fail
    refine (toIntS_any sh _ _ H _ (rd_below hp b12) hl3).mono ?_
    rintro e w13 ⟨⟨u13, G13, rfl, r13, f13⟩, hb13⟩
    have b13 := belowT b12 hb13
    go_wp2_with fail
    refine (eqIntS_any sh sh _ _ _ _ _ _ _ (rd_below r7 (belowT (belowT (belowT (belowT hb9 hb10) hb11) hb12) hb13)) r13).mono ?_
    rintro e w14 ⟨⟨bb, rfl, hbb⟩, hb14⟩
    obtain rfl : bb = true := hbb.2 rfl
    have b14 := belowT b13 hb14
    go_wp2
    go_ret
    exact ⟨rfl, b14⟩
end Go.Proofs.Ytbdegifmcppciaa
