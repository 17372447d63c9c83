import Derived.Test.YteilcchcekmooaaMFnEven1
import Derived.WalkKit
import Derived.Test.YteilcchcekmooaaShelf
/- PSortD -/
/-
  The library's stable sort with a comparison, walked: symMerge, the halves, and whole. (Printed by wip/g/gsort.py.)
-/
namespace Go.Proofs.Yteilcchcekmooaa.G
open Go.Shelf Go.RowKit Go.Lib Go.Sort
set_option linter.unusedVariables false
set_option linter.unusedSimpArgs false
variable {α : Type} [Inhabited α]

set_option maxHeartbeats 16000000 in
set_option maxRecDepth 1000000 in
theorem symMerge_down (enc : α → Value) (cf : α → α → Int) (lt : α → α → Bool) (hO : SWO lt) (g : Nat) (cb : Array Value) (blk off cap a m b : Nat) (d0 d : Array α) (w0 w : World)
    (eg : ∀ args w, (callFunc g args).run Try.prog w = .ok (.enter g args) w) (hcmp : CmpLays1 Try.prog g cb enc cf blk off d0.size w0) (R : Row1 enc w0 blk off d0) (hs : d0.size = d.size) (S : SW enc w0 blk off d w) (hb : b ≤ d.size) (hsz : d.size < 4611686018427387904) (M : Mrg lt (ltOf cf) a m b d) (hma : ¬ m = a + 1) (hmb : ¬ b = m + 1) (ham : a < m) (hmb2 : m < b) (cap_ : cap = cap) (N : Nat) (IH : SymAt enc lt (ltOf cf) g cb blk off cap d0 w0 N) (hN : b - a ≤ N + 1) (hmid : ¬ (a + b) / 2 < m) :
    Calls Try.prog 41 #[.slice (some ⟨blk, off, none⟩) d.size cap, .int .i64 a, .int .i64 m, .int .i64 b, .func (.func g) #[] cb] w fun e w' => e = .returned (.tuple #[]) ∧ ∃ d', SW enc w0 blk off d' w' ∧ d'.size = d.size ∧ PermIn a b d d' ∧ SortedIn lt a b d' := by
  have mixed : Try.prog.follows Departure.mixedOrders = true := by kernel_rfl
  have hcl0 := R.hO.cells
  simp only [Value.cells] at hcl0
  have hst := R.hO.store Try.prog
  have HC : Aside _ := hcmp
  have HM : Aside _ := M
  have S0 : Aside (SW enc w0 blk off d w) := S
  clear hcmp S M
  have HIH : Aside _ := IH
  have hm1 : ¬ (m : Int) - (a : Int) = 1 := by omega
  have hm2 : ((m : Int) - (a : Int) == 1) = false := beq_eq_false_iff_ne.2 hm1
  have hn1 : ¬ (b : Int) - (m : Int) = 1 := by omega
  have hn2 : ((b : Int) - (m : Int) == 1) = false := beq_eq_false_iff_ne.2 hn1
  obtain ⟨mid, hmd⟩ : ∃ mid, mid = (a + b) / 2 := ⟨_, rfl⟩
  have hmdz : ((a : Int) + (b : Int)) / 2 = (mid : Int) := by omega
  have hmw : IntKind.i64.wrap ((a : Int) + (b : Int)) = (a : Int) + (b : Int) := by rw [IntKind.wrap_i64]; omega
  have hmi : a < mid ∧ mid < b ∧ a + b ≤ 2 * mid + 1 ∧ 2 * mid ≤ a + b := by omega
  have hmc : ¬ (mid : Int) < (m : Int) := by omega
  obtain ⟨lo, hlo⟩ : ∃ lo, lo = a := ⟨_, rfl⟩
  obtain ⟨hi, hhi⟩ : ∃ hi, hi = m := ⟨_, rfl⟩
  have hloz : (lo : Int) = (a : Int) := by omega
  have hlh : a ≤ lo ∧ lo ≤ hi ∧ hi ≤ m ∧ hi ≤ mid ∧ mid + m ≤ lo + b ∧ m + hi ≤ mid + m := by omega
  have HLO : Hid (lo = a ∨ mid + m = lo + b) := by unfold Hid; omega
  have HHI : Hid (hi = m ∨ hi = mid) := by unfold Hid; omega
  have HLZ := Lib.hid hloz
  have HHZ := Lib.hid hhi
  obtain ⟨pN, hpn⟩ : ∃ pN, pN + 1 = mid + m := ⟨mid + m - 1, by omega⟩
  have hpz : (mid : Int) + (m : Int) - 1 = (pN : Int) := by omega
  clear hma hmb hmid hmd hlo hhi hloz IH
  go_enter Try.func41, Try.ntmps41
  go_wp2
  clear hm1 hm2 hn1 hn2 hmdz hmw hmc hpz
  go_loopg [20, 21] (hi - lo) (fun gk s10 s11 wr => ∃ (i j : Nat), s10 = .int .i64 i ∧ s11 = .int .i64 j ∧ lo ≤ i ∧ i ≤ j ∧ j ≤ hi ∧ j - i ≤ gk ∧ Aside (SW enc w0 blk off d wr) ∧ Hid (i = lo ∨ ltOf cf d[mid + m - i]! d[i - 1]! = false) ∧ Hid (j = hi ∨ ltOf cf d[pN - j]! d[j]! = true))
  case atStart => exact ⟨lo, hi, by rw [HLZ.out], by rw [HHZ.out], by omega, by omega, by omega, by omega, S0, Or.inl rfl, Or.inl rfl⟩
  case round =>
    clear S0
    obtain ⟨i, j, rfl, rfl, hli, hij, hjb, hgk, S1, HI, HJ⟩ := hrel
    by_cases hlt : i < j
    · have hltz : (i : Int) < (j : Int) := by omega
      obtain ⟨h, hh⟩ : ∃ h, h = (i + j) / 2 := ⟨_, rfl⟩
      have hz : ((i : Int) + (j : Int)) / 2 = (h : Int) := by omega
      have hih : i ≤ h ∧ h < j := by omega
      have hw1 : IntKind.i64.wrap ((i : Int) + (j : Int)) = (i : Int) + (j : Int) := by rw [IntKind.wrap_i64]; omega
      clear hh
      obtain ⟨q, hq⟩ : ∃ q, q + h = pN := ⟨pN - h, by omega⟩
      have hqz : (pN : Int) - (h : Int) = (q : Int) := by omega
      cases hlv : ltOf cf d[q]! d[h]! with
      | false =>
        obtain ⟨iN7, hiN7⟩ : ∃ z_, z_ = q := ⟨_, rfl⟩
        obtain ⟨jN7, hjN7⟩ : ∃ z_, z_ = h := ⟨_, rfl⟩
        have ea7 : ((q : Int)).toNat = iN7 := by omega
        have pa7 : (0 : Int) ≤ (q : Int) := by omega
        have ba7 : (q : Int) < (d.size : Int) := by omega
        have ra7 : IntKind.i64.wrap ((q : Int)) = (q : Int) := by rw [IntKind.wrap_i64]; omega
        have ec7 : ((h : Int)).toNat = jN7 := by omega
        have pc7 : (0 : Int) ≤ (h : Int) := by omega
        have bc7 : (h : Int) < (d.size : Int) := by omega
        have rc7 : IntKind.i64.wrap ((h : Int)) = (h : Int) := by rw [IntKind.wrap_i64]; omega
        obtain ⟨x7, hx7⟩ : ∃ z_, z_ = d[q]! := ⟨_, rfl⟩
        obtain ⟨y7, hy7⟩ : ∃ z_, z_ = d[h]! := ⟨_, rfl⟩
        have l7a := S1.out.cl R (by omega) (q) (by omega)
        have l7b := S1.out.cl R (by omega) (h) (by omega)
        rw [← hx7, ← hiN7] at l7a
        rw [← hy7, ← hjN7] at l7b
        have hc7 := S1.out.cmp HC.out (by omega) x7 y7
        have hv7 : ¬ cf x7 y7 < 0 := by rw [hx7, hy7]; exact of_decide_eq_false hlv
        have hd7 : decide (cf x7 y7 < 0) = false := decide_eq_false hv7
        clear hx7 hy7 hiN7 hjN7
        go_wp2_with fail
        go_quiet_grown (first | (go_at_fn g; refine Calls.grown_of (hc7 _ _)))
        have S2 : Aside (SW enc w0 blk off d (grow (wr.drewN nq) osq)) := S1.out.grown nq osq
        clear l7a l7b hc7 S1
        generalize grow (wr.drewN nq) osq = w2 at S2 ⊢
        clear nq osq
        clear ea7 ec7
        go_wp2
        go_roundg (j - (h + 1))
        case measure => omega
        case rel => exact ⟨h + 1, j, by go_num, rfl, by omega, by omega, hjb, Nat.le_refl _, S2, Or.inr (by rw [show mid + m - (h + 1) = q by omega]; exact hlv), HJ⟩
      | true =>
        obtain ⟨iN8, hiN8⟩ : ∃ z_, z_ = q := ⟨_, rfl⟩
        obtain ⟨jN8, hjN8⟩ : ∃ z_, z_ = h := ⟨_, rfl⟩
        have ea8 : ((q : Int)).toNat = iN8 := by omega
        have pa8 : (0 : Int) ≤ (q : Int) := by omega
        have ba8 : (q : Int) < (d.size : Int) := by omega
        have ra8 : IntKind.i64.wrap ((q : Int)) = (q : Int) := by rw [IntKind.wrap_i64]; omega
        have ec8 : ((h : Int)).toNat = jN8 := by omega
        have pc8 : (0 : Int) ≤ (h : Int) := by omega
        have bc8 : (h : Int) < (d.size : Int) := by omega
        have rc8 : IntKind.i64.wrap ((h : Int)) = (h : Int) := by rw [IntKind.wrap_i64]; omega
        obtain ⟨x8, hx8⟩ : ∃ z_, z_ = d[q]! := ⟨_, rfl⟩
        obtain ⟨y8, hy8⟩ : ∃ z_, z_ = d[h]! := ⟨_, rfl⟩
        have l8a := S1.out.cl R (by omega) (q) (by omega)
        have l8b := S1.out.cl R (by omega) (h) (by omega)
        rw [← hx8, ← hiN8] at l8a
        rw [← hy8, ← hjN8] at l8b
        have hc8 := S1.out.cmp HC.out (by omega) x8 y8
        have hv8 : cf x8 y8 < 0 := by rw [hx8, hy8]; exact of_decide_eq_true hlv
        have hd8 : decide (cf x8 y8 < 0) = true := decide_eq_true hv8
        clear hx8 hy8 hiN8 hjN8
        go_wp2_with fail
        go_quiet_grown (first | (go_at_fn g; refine Calls.grown_of (hc8 _ _)))
        have S2 : Aside (SW enc w0 blk off d (grow (wr.drewN nq) osq)) := S1.out.grown nq osq
        clear l8a l8b hc8 S1
        generalize grow (wr.drewN nq) osq = w2 at S2 ⊢
        clear nq osq
        clear ea8 ec8
        go_wp2
        go_roundg (h - i)
        case measure => omega
        case rel => exact ⟨i, h, rfl, rfl, hli, by omega, by omega, Nat.le_refl _, S2, HI, Or.inr (by rw [show pN - h = q by omega]; exact hlv)⟩
    · have hltz : ¬ (i : Int) < (j : Int) := by omega
      obtain rfl : i = j := by omega
      obtain ⟨en, hen⟩ : ∃ en, en = mid + m - i := ⟨_, rfl⟩
      have henz : (mid : Int) + (m : Int) - (i : Int) = (en : Int) := by omega
      have hee : i + en = mid + m := by omega
      have HEN := Lib.hid hen
      clear hen
      have H1 : Hid (i = a ∨ en = b ∨ ltOf cf d[en]! d[i - 1]! = false) := by
        rcases HI.out with h | h
        · rcases HLO.out with h2 | h2
          · exact Or.inl (by omega)
          · exact Or.inr (Or.inl (by omega))
        · exact Or.inr (Or.inr (by rw [HEN.out]; exact h))
      have H2 : Hid (i = m ∨ en = m ∨ ltOf cf d[en - 1]! d[i]! = true) := by
        rcases HJ.out with h | h
        · rcases HHI.out with h2 | h2
          · exact Or.inl (by omega)
          · exact Or.inr (Or.inl (by omega))
        · exact Or.inr (Or.inr (by rw [show en - 1 = pN - i by omega]; exact h))
      have heq : mid = i + (en - m) := by omega
      have him : i ≤ m ∧ m ≤ en ∧ en ≤ b ∧ mid ≤ en ∧ i ≤ mid ∧ a ≤ i := by omega
      have FIN : Aside (∀ (d1 : Array α) (wx : World), SW enc w0 blk off d1 wx → d1.size = d.size → (∀ k, getG d1 k = rotG i m en (getG d) k) → PermIn a b d d1 ∧ Mrg lt (ltOf cf) a i mid d1 ∧ Mrg lt (ltOf cf) mid en b d1 ∧ (∀ p q, a ≤ p → p < mid → mid ≤ q → q < b → lt d1[q]! d1[p]! = false)) := fun d1 wx _ hd1 hE => by
        have := merge_cut hO HM.out him.2.2.2.2.2 him.1 him.2.1 him.2.2.1 hb hd1 H1.out H2.out hE
        rwa [← heq] at this
      clear HI HJ H1 H2 HLO HHI HLZ HHZ hlh HEN heq hee
      by_cases hro : i < m ∧ m < en
      · have hro1 : (i : Int) < (m : Int) := by omega
        have hro2 : (m : Int) < (en : Int) := by omega
        have hc := rotate_calls enc g cb blk off cap i m en d0 d w0 wr R hs S1.out (by omega) (by omega) (by omega) hsz
        go_wp2_with fail
        refine hc.mono ?_
        rintro e w3 ⟨rfl, d1, hS2, hsd1, hE1⟩
        have S2 : Aside _ := hS2
        have HE := Lib.hid hE1
        clear hS2 hE1 hc S1
        obtain ⟨hP1, hML, hMR, hX⟩ := FIN.out d1 _ S2.out hsd1 HE.out
        have P1 := Lib.hid hP1
        have HX := Lib.hid hX
        have ML := Lib.hid hML
        have MR1 := Lib.hid hMR
        clear hP1 hML hMR hX HE FIN
        by_cases hl : a < i ∧ i < mid
        · have hl1 : (a : Int) < (i : Int) := by omega
          have hl2 : (i : Int) < (mid : Int) := by omega
          have hc := HIH.out a i mid d1 _ (by omega) (by omega) S2.out (by omega) (by omega) (by omega) ML.out
          rw [hsd1] at hc
          go_wp2_with fail
          refine hc.mono ?_
          rintro e w4 ⟨rfl, d2, hS2, hsd2, hP2, hO2⟩
          have S3 : Aside _ := hS2
          have PL := Lib.hid hP2
          have SL := Lib.hid hO2
          have MR : Hid (Mrg lt (ltOf cf) mid en b d2) := by
            have h := MR1.out
            have hk : ∀ k, mid ≤ k → d2[k]! = d1[k]! := fun k hk => PL.out.2.1 k (Or.inr hk)
            exact ⟨fun p q h1 h2 h3 => by rw [hk p h1, hk q (by omega)]; exact h.left p q h1 h2 h3, fun p q h1 h2 h3 => by rw [hk p (by omega), hk q (by omega)]; exact h.right p q h1 h2 h3, fun p q h1 h2 h3 h4 => by rw [hk p h1, hk q (by omega)]; exact h.crs p q h1 h2 h3 h4⟩
          clear hS2 hP2 hO2 hc S2
          by_cases hr : mid < en ∧ en < b
          · have hr1 : (mid : Int) < (en : Int) := by omega
            have hr2 : (en : Int) < (b : Int) := by omega
            have hc := HIH.out mid en b d2 _ (by omega) (by omega) S3.out (by omega) (by omega) (by omega) MR.out
            rw [hsd2] at hc
            go_wp2_with fail
            all_goals
              refine hc.mono ?_
              rintro e w5 ⟨rfl, d3, hS3, hs3, hP3, hO3⟩
              have hA : Aside _ := hS3
              have hB := Lib.hid (sorted_halves (lt := lt) (a := a) (m := mid) (b := b) (by omega) (by omega) (by omega) PL.out SL.out hP3 hO3 HX.out)
              clear hS3 hP3 hO3 hc
              go_wp2
              all_goals (go_end0; exact ⟨rfl, d3, hA.out, by omega, permIn_trans _ _ _ _ _ P1.out hB.out.1, hB.out.2⟩)
          · have hB := Lib.hid (sorted_halves (lt := lt) (a := a) (m := mid) (b := b) (by omega) (by omega) (by omega) PL.out SL.out (permIn_refl d2 mid b) (show SortedIn lt mid b d2 by
              have MR2 := MR.out
              by_cases h1 : mid < en
              · have : en = b := by omega
                rw [← this]; exact MR2.left
              · have : en = mid := by omega
                rw [this] at MR2; exact MR2.right) HX.out)
            by_cases hr0 : mid < en
            · have hr1 : (mid : Int) < (en : Int) := by omega
              have hr2 : ¬ (en : Int) < (b : Int) := by omega
              go_wp2
              all_goals (go_end0; exact ⟨rfl, d2, S3.out, by omega, permIn_trans _ _ _ _ _ P1.out hB.out.1, hB.out.2⟩)
            · have hr1 : ¬ (mid : Int) < (en : Int) := by omega
              go_wp2
              all_goals (go_end0; exact ⟨rfl, d2, S3.out, by omega, permIn_trans _ _ _ _ _ P1.out hB.out.1, hB.out.2⟩)
        · obtain ⟨d2, hd2⟩ : ∃ d2, d2 = d1 := ⟨_, rfl⟩
          have PL : Hid (PermIn a mid d1 d2) := by rw [hd2]; exact permIn_refl d1 a mid
          have SL : Hid (SortedIn lt a mid d2) := by
            rw [hd2]
            have h := ML.out
            by_cases h1 : a < i
            · have : i = mid := by omega
              rw [← this]; exact h.left
            · have : i = a := by omega
              rw [this] at h; exact h.right
          have MR : Hid (Mrg lt (ltOf cf) mid en b d2) := by rw [hd2]; exact MR1.out
          rw [← hd2] at S2
          have S3 := S2
          have hsd2 : d2.size = d.size := by rw [hd2]; exact hsd1
          clear hd2 S2
          by_cases hl0 : a < i
          · have hl1 : (a : Int) < (i : Int) := by omega
            have hl2 : ¬ (i : Int) < (mid : Int) := by omega
            by_cases hr : mid < en ∧ en < b
            · have hr1 : (mid : Int) < (en : Int) := by omega
              have hr2 : (en : Int) < (b : Int) := by omega
              have hc := HIH.out mid en b d2 _ (by omega) (by omega) S3.out (by omega) (by omega) (by omega) MR.out
              rw [hsd2] at hc
              go_wp2_with fail
              all_goals
                refine hc.mono ?_
                rintro e w5 ⟨rfl, d3, hS3, hs3, hP3, hO3⟩
                have hA : Aside _ := hS3
                have hB := Lib.hid (sorted_halves (lt := lt) (a := a) (m := mid) (b := b) (by omega) (by omega) (by omega) PL.out SL.out hP3 hO3 HX.out)
                clear hS3 hP3 hO3 hc
                go_wp2
                all_goals (go_end0; exact ⟨rfl, d3, hA.out, by omega, permIn_trans _ _ _ _ _ P1.out hB.out.1, hB.out.2⟩)
            · have hB := Lib.hid (sorted_halves (lt := lt) (a := a) (m := mid) (b := b) (by omega) (by omega) (by omega) PL.out SL.out (permIn_refl d2 mid b) (show SortedIn lt mid b d2 by
                have MR2 := MR.out
                by_cases h1 : mid < en
                · have : en = b := by omega
                  rw [← this]; exact MR2.left
                · have : en = mid := by omega
                  rw [this] at MR2; exact MR2.right) HX.out)
              by_cases hr0 : mid < en
              · have hr1 : (mid : Int) < (en : Int) := by omega
                have hr2 : ¬ (en : Int) < (b : Int) := by omega
                go_wp2
                all_goals (go_end0; exact ⟨rfl, d2, S3.out, by omega, permIn_trans _ _ _ _ _ P1.out hB.out.1, hB.out.2⟩)
              · have hr1 : ¬ (mid : Int) < (en : Int) := by omega
                go_wp2
                all_goals (go_end0; exact ⟨rfl, d2, S3.out, by omega, permIn_trans _ _ _ _ _ P1.out hB.out.1, hB.out.2⟩)
          · have hl1 : ¬ (a : Int) < (i : Int) := by omega
            by_cases hr : mid < en ∧ en < b
            · have hr1 : (mid : Int) < (en : Int) := by omega
              have hr2 : (en : Int) < (b : Int) := by omega
              have hc := HIH.out mid en b d2 _ (by omega) (by omega) S3.out (by omega) (by omega) (by omega) MR.out
              rw [hsd2] at hc
              go_wp2_with fail
              all_goals
                refine hc.mono ?_
                rintro e w5 ⟨rfl, d3, hS3, hs3, hP3, hO3⟩
                have hA : Aside _ := hS3
                have hB := Lib.hid (sorted_halves (lt := lt) (a := a) (m := mid) (b := b) (by omega) (by omega) (by omega) PL.out SL.out hP3 hO3 HX.out)
                clear hS3 hP3 hO3 hc
                go_wp2
                all_goals (go_end0; exact ⟨rfl, d3, hA.out, by omega, permIn_trans _ _ _ _ _ P1.out hB.out.1, hB.out.2⟩)
            · have hB := Lib.hid (sorted_halves (lt := lt) (a := a) (m := mid) (b := b) (by omega) (by omega) (by omega) PL.out SL.out (permIn_refl d2 mid b) (show SortedIn lt mid b d2 by
                have MR2 := MR.out
                by_cases h1 : mid < en
                · have : en = b := by omega
                  rw [← this]; exact MR2.left
                · have : en = mid := by omega
                  rw [this] at MR2; exact MR2.right) HX.out)
              by_cases hr0 : mid < en
              · have hr1 : (mid : Int) < (en : Int) := by omega
                have hr2 : ¬ (en : Int) < (b : Int) := by omega
                go_wp2
                all_goals (go_end0; exact ⟨rfl, d2, S3.out, by omega, permIn_trans _ _ _ _ _ P1.out hB.out.1, hB.out.2⟩)
              · have hr1 : ¬ (mid : Int) < (en : Int) := by omega
                go_wp2
                all_goals (go_end0; exact ⟨rfl, d2, S3.out, by omega, permIn_trans _ _ _ _ _ P1.out hB.out.1, hB.out.2⟩)
      · obtain ⟨d1, hd1⟩ : ∃ d1, d1 = d := ⟨_, rfl⟩
        have HE : Hid (∀ k, getG d1 k = rotG i m en (getG d) k) := fun k => by
          rw [hd1]
          by_cases h1 : i < m
          · have : en = m := by omega
            rw [this, rotG_none]
          · have : i = m := by omega
            rw [this, rotG_none' m en him.2.1]
        have hsd1 : d1.size = d.size := by rw [hd1]
        have S2 : Aside (SW enc w0 blk off d1 wr) := by rw [hd1]; exact S1
        clear S1 hd1
        by_cases hro0 : i < m
        · have hro1 : (i : Int) < (m : Int) := by omega
          have hro2 : ¬ (m : Int) < (en : Int) := by omega
          obtain ⟨hP1, hML, hMR, hX⟩ := FIN.out d1 _ S2.out hsd1 HE.out
          have P1 := Lib.hid hP1
          have HX := Lib.hid hX
          have ML := Lib.hid hML
          have MR1 := Lib.hid hMR
          clear hP1 hML hMR hX HE FIN
          by_cases hl : a < i ∧ i < mid
          · have hl1 : (a : Int) < (i : Int) := by omega
            have hl2 : (i : Int) < (mid : Int) := by omega
            have hc := HIH.out a i mid d1 _ (by omega) (by omega) S2.out (by omega) (by omega) (by omega) ML.out
            rw [hsd1] at hc
            go_wp2_with fail
            refine hc.mono ?_
            rintro e w4 ⟨rfl, d2, hS2, hsd2, hP2, hO2⟩
            have S3 : Aside _ := hS2
            have PL := Lib.hid hP2
            have SL := Lib.hid hO2
            have MR : Hid (Mrg lt (ltOf cf) mid en b d2) := by
              have h := MR1.out
              have hk : ∀ k, mid ≤ k → d2[k]! = d1[k]! := fun k hk => PL.out.2.1 k (Or.inr hk)
              exact ⟨fun p q h1 h2 h3 => by rw [hk p h1, hk q (by omega)]; exact h.left p q h1 h2 h3, fun p q h1 h2 h3 => by rw [hk p (by omega), hk q (by omega)]; exact h.right p q h1 h2 h3, fun p q h1 h2 h3 h4 => by rw [hk p h1, hk q (by omega)]; exact h.crs p q h1 h2 h3 h4⟩
            clear hS2 hP2 hO2 hc S2
            by_cases hr : mid < en ∧ en < b
            · have hr1 : (mid : Int) < (en : Int) := by omega
              have hr2 : (en : Int) < (b : Int) := by omega
              have hc := HIH.out mid en b d2 _ (by omega) (by omega) S3.out (by omega) (by omega) (by omega) MR.out
              rw [hsd2] at hc
              go_wp2_with fail
              all_goals
                refine hc.mono ?_
                rintro e w5 ⟨rfl, d3, hS3, hs3, hP3, hO3⟩
                have hA : Aside _ := hS3
                have hB := Lib.hid (sorted_halves (lt := lt) (a := a) (m := mid) (b := b) (by omega) (by omega) (by omega) PL.out SL.out hP3 hO3 HX.out)
                clear hS3 hP3 hO3 hc
                go_wp2
                all_goals (go_end0; exact ⟨rfl, d3, hA.out, by omega, permIn_trans _ _ _ _ _ P1.out hB.out.1, hB.out.2⟩)
            · have hB := Lib.hid (sorted_halves (lt := lt) (a := a) (m := mid) (b := b) (by omega) (by omega) (by omega) PL.out SL.out (permIn_refl d2 mid b) (show SortedIn lt mid b d2 by
                have MR2 := MR.out
                by_cases h1 : mid < en
                · have : en = b := by omega
                  rw [← this]; exact MR2.left
                · have : en = mid := by omega
                  rw [this] at MR2; exact MR2.right) HX.out)
              by_cases hr0 : mid < en
              · have hr1 : (mid : Int) < (en : Int) := by omega
                have hr2 : ¬ (en : Int) < (b : Int) := by omega
                go_wp2
                all_goals (go_end0; exact ⟨rfl, d2, S3.out, by omega, permIn_trans _ _ _ _ _ P1.out hB.out.1, hB.out.2⟩)
              · have hr1 : ¬ (mid : Int) < (en : Int) := by omega
                go_wp2
                all_goals (go_end0; exact ⟨rfl, d2, S3.out, by omega, permIn_trans _ _ _ _ _ P1.out hB.out.1, hB.out.2⟩)
          · obtain ⟨d2, hd2⟩ : ∃ d2, d2 = d1 := ⟨_, rfl⟩
            have PL : Hid (PermIn a mid d1 d2) := by rw [hd2]; exact permIn_refl d1 a mid
            have SL : Hid (SortedIn lt a mid d2) := by
              rw [hd2]
              have h := ML.out
              by_cases h1 : a < i
              · have : i = mid := by omega
                rw [← this]; exact h.left
              · have : i = a := by omega
                rw [this] at h; exact h.right
            have MR : Hid (Mrg lt (ltOf cf) mid en b d2) := by rw [hd2]; exact MR1.out
            rw [← hd2] at S2
            have S3 := S2
            have hsd2 : d2.size = d.size := by rw [hd2]; exact hsd1
            clear hd2 S2
            by_cases hl0 : a < i
            · have hl1 : (a : Int) < (i : Int) := by omega
              have hl2 : ¬ (i : Int) < (mid : Int) := by omega
              by_cases hr : mid < en ∧ en < b
              · have hr1 : (mid : Int) < (en : Int) := by omega
                have hr2 : (en : Int) < (b : Int) := by omega
                have hc := HIH.out mid en b d2 _ (by omega) (by omega) S3.out (by omega) (by omega) (by omega) MR.out
                rw [hsd2] at hc
                go_wp2_with fail
                all_goals
                  refine hc.mono ?_
                  rintro e w5 ⟨rfl, d3, hS3, hs3, hP3, hO3⟩
                  have hA : Aside _ := hS3
                  have hB := Lib.hid (sorted_halves (lt := lt) (a := a) (m := mid) (b := b) (by omega) (by omega) (by omega) PL.out SL.out hP3 hO3 HX.out)
                  clear hS3 hP3 hO3 hc
                  go_wp2
                  all_goals (go_end0; exact ⟨rfl, d3, hA.out, by omega, permIn_trans _ _ _ _ _ P1.out hB.out.1, hB.out.2⟩)
              · have hB := Lib.hid (sorted_halves (lt := lt) (a := a) (m := mid) (b := b) (by omega) (by omega) (by omega) PL.out SL.out (permIn_refl d2 mid b) (show SortedIn lt mid b d2 by
                  have MR2 := MR.out
                  by_cases h1 : mid < en
                  · have : en = b := by omega
                    rw [← this]; exact MR2.left
                  · have : en = mid := by omega
                    rw [this] at MR2; exact MR2.right) HX.out)
                by_cases hr0 : mid < en
                · have hr1 : (mid : Int) < (en : Int) := by omega
                  have hr2 : ¬ (en : Int) < (b : Int) := by omega
                  go_wp2
                  all_goals (go_end0; exact ⟨rfl, d2, S3.out, by omega, permIn_trans _ _ _ _ _ P1.out hB.out.1, hB.out.2⟩)
                · have hr1 : ¬ (mid : Int) < (en : Int) := by omega
                  go_wp2
                  all_goals (go_end0; exact ⟨rfl, d2, S3.out, by omega, permIn_trans _ _ _ _ _ P1.out hB.out.1, hB.out.2⟩)
            · have hl1 : ¬ (a : Int) < (i : Int) := by omega
              by_cases hr : mid < en ∧ en < b
              · have hr1 : (mid : Int) < (en : Int) := by omega
                have hr2 : (en : Int) < (b : Int) := by omega
                have hc := HIH.out mid en b d2 _ (by omega) (by omega) S3.out (by omega) (by omega) (by omega) MR.out
                rw [hsd2] at hc
                go_wp2_with fail
                all_goals
                  refine hc.mono ?_
                  rintro e w5 ⟨rfl, d3, hS3, hs3, hP3, hO3⟩
                  have hA : Aside _ := hS3
                  have hB := Lib.hid (sorted_halves (lt := lt) (a := a) (m := mid) (b := b) (by omega) (by omega) (by omega) PL.out SL.out hP3 hO3 HX.out)
                  clear hS3 hP3 hO3 hc
                  go_wp2
                  all_goals (go_end0; exact ⟨rfl, d3, hA.out, by omega, permIn_trans _ _ _ _ _ P1.out hB.out.1, hB.out.2⟩)
              · have hB := Lib.hid (sorted_halves (lt := lt) (a := a) (m := mid) (b := b) (by omega) (by omega) (by omega) PL.out SL.out (permIn_refl d2 mid b) (show SortedIn lt mid b d2 by
                  have MR2 := MR.out
                  by_cases h1 : mid < en
                  · have : en = b := by omega
                    rw [← this]; exact MR2.left
                  · have : en = mid := by omega
                    rw [this] at MR2; exact MR2.right) HX.out)
                by_cases hr0 : mid < en
                · have hr1 : (mid : Int) < (en : Int) := by omega
                  have hr2 : ¬ (en : Int) < (b : Int) := by omega
                  go_wp2
                  all_goals (go_end0; exact ⟨rfl, d2, S3.out, by omega, permIn_trans _ _ _ _ _ P1.out hB.out.1, hB.out.2⟩)
                · have hr1 : ¬ (mid : Int) < (en : Int) := by omega
                  go_wp2
                  all_goals (go_end0; exact ⟨rfl, d2, S3.out, by omega, permIn_trans _ _ _ _ _ P1.out hB.out.1, hB.out.2⟩)
        · have hro1 : ¬ (i : Int) < (m : Int) := by omega
          obtain ⟨hP1, hML, hMR, hX⟩ := FIN.out d1 _ S2.out hsd1 HE.out
          have P1 := Lib.hid hP1
          have HX := Lib.hid hX
          have ML := Lib.hid hML
          have MR1 := Lib.hid hMR
          clear hP1 hML hMR hX HE FIN
          by_cases hl : a < i ∧ i < mid
          · have hl1 : (a : Int) < (i : Int) := by omega
            have hl2 : (i : Int) < (mid : Int) := by omega
            have hc := HIH.out a i mid d1 _ (by omega) (by omega) S2.out (by omega) (by omega) (by omega) ML.out
            rw [hsd1] at hc
            go_wp2_with fail
            refine hc.mono ?_
            rintro e w4 ⟨rfl, d2, hS2, hsd2, hP2, hO2⟩
            have S3 : Aside _ := hS2
            have PL := Lib.hid hP2
            have SL := Lib.hid hO2
            have MR : Hid (Mrg lt (ltOf cf) mid en b d2) := by
              have h := MR1.out
              have hk : ∀ k, mid ≤ k → d2[k]! = d1[k]! := fun k hk => PL.out.2.1 k (Or.inr hk)
              exact ⟨fun p q h1 h2 h3 => by rw [hk p h1, hk q (by omega)]; exact h.left p q h1 h2 h3, fun p q h1 h2 h3 => by rw [hk p (by omega), hk q (by omega)]; exact h.right p q h1 h2 h3, fun p q h1 h2 h3 h4 => by rw [hk p h1, hk q (by omega)]; exact h.crs p q h1 h2 h3 h4⟩
            clear hS2 hP2 hO2 hc S2
            by_cases hr : mid < en ∧ en < b
            · have hr1 : (mid : Int) < (en : Int) := by omega
              have hr2 : (en : Int) < (b : Int) := by omega
              have hc := HIH.out mid en b d2 _ (by omega) (by omega) S3.out (by omega) (by omega) (by omega) MR.out
              rw [hsd2] at hc
              go_wp2_with fail
              all_goals
                refine hc.mono ?_
                rintro e w5 ⟨rfl, d3, hS3, hs3, hP3, hO3⟩
                have hA : Aside _ := hS3
                have hB := Lib.hid (sorted_halves (lt := lt) (a := a) (m := mid) (b := b) (by omega) (by omega) (by omega) PL.out SL.out hP3 hO3 HX.out)
                clear hS3 hP3 hO3 hc
                go_wp2
                all_goals (go_end0; exact ⟨rfl, d3, hA.out, by omega, permIn_trans _ _ _ _ _ P1.out hB.out.1, hB.out.2⟩)
            · have hB := Lib.hid (sorted_halves (lt := lt) (a := a) (m := mid) (b := b) (by omega) (by omega) (by omega) PL.out SL.out (permIn_refl d2 mid b) (show SortedIn lt mid b d2 by
                have MR2 := MR.out
                by_cases h1 : mid < en
                · have : en = b := by omega
                  rw [← this]; exact MR2.left
                · have : en = mid := by omega
                  rw [this] at MR2; exact MR2.right) HX.out)
              by_cases hr0 : mid < en
              · have hr1 : (mid : Int) < (en : Int) := by omega
                have hr2 : ¬ (en : Int) < (b : Int) := by omega
                go_wp2
                all_goals (go_end0; exact ⟨rfl, d2, S3.out, by omega, permIn_trans _ _ _ _ _ P1.out hB.out.1, hB.out.2⟩)
              · have hr1 : ¬ (mid : Int) < (en : Int) := by omega
                go_wp2
                all_goals (go_end0; exact ⟨rfl, d2, S3.out, by omega, permIn_trans _ _ _ _ _ P1.out hB.out.1, hB.out.2⟩)
          · obtain ⟨d2, hd2⟩ : ∃ d2, d2 = d1 := ⟨_, rfl⟩
            have PL : Hid (PermIn a mid d1 d2) := by rw [hd2]; exact permIn_refl d1 a mid
            have SL : Hid (SortedIn lt a mid d2) := by
              rw [hd2]
              have h := ML.out
              by_cases h1 : a < i
              · have : i = mid := by omega
                rw [← this]; exact h.left
              · have : i = a := by omega
                rw [this] at h; exact h.right
            have MR : Hid (Mrg lt (ltOf cf) mid en b d2) := by rw [hd2]; exact MR1.out
            rw [← hd2] at S2
            have S3 := S2
            have hsd2 : d2.size = d.size := by rw [hd2]; exact hsd1
            clear hd2 S2
            by_cases hl0 : a < i
            · have hl1 : (a : Int) < (i : Int) := by omega
              have hl2 : ¬ (i : Int) < (mid : Int) := by omega
              by_cases hr : mid < en ∧ en < b
              · have hr1 : (mid : Int) < (en : Int) := by omega
                have hr2 : (en : Int) < (b : Int) := by omega
                have hc := HIH.out mid en b d2 _ (by omega) (by omega) S3.out (by omega) (by omega) (by omega) MR.out
                rw [hsd2] at hc
                go_wp2_with fail
                all_goals
                  refine hc.mono ?_
                  rintro e w5 ⟨rfl, d3, hS3, hs3, hP3, hO3⟩
                  have hA : Aside _ := hS3
                  have hB := Lib.hid (sorted_halves (lt := lt) (a := a) (m := mid) (b := b) (by omega) (by omega) (by omega) PL.out SL.out hP3 hO3 HX.out)
                  clear hS3 hP3 hO3 hc
                  go_wp2
                  all_goals (go_end0; exact ⟨rfl, d3, hA.out, by omega, permIn_trans _ _ _ _ _ P1.out hB.out.1, hB.out.2⟩)
              · have hB := Lib.hid (sorted_halves (lt := lt) (a := a) (m := mid) (b := b) (by omega) (by omega) (by omega) PL.out SL.out (permIn_refl d2 mid b) (show SortedIn lt mid b d2 by
                  have MR2 := MR.out
                  by_cases h1 : mid < en
                  · have : en = b := by omega
                    rw [← this]; exact MR2.left
                  · have : en = mid := by omega
                    rw [this] at MR2; exact MR2.right) HX.out)
                by_cases hr0 : mid < en
                · have hr1 : (mid : Int) < (en : Int) := by omega
                  have hr2 : ¬ (en : Int) < (b : Int) := by omega
                  go_wp2
                  all_goals (go_end0; exact ⟨rfl, d2, S3.out, by omega, permIn_trans _ _ _ _ _ P1.out hB.out.1, hB.out.2⟩)
                · have hr1 : ¬ (mid : Int) < (en : Int) := by omega
                  go_wp2
                  all_goals (go_end0; exact ⟨rfl, d2, S3.out, by omega, permIn_trans _ _ _ _ _ P1.out hB.out.1, hB.out.2⟩)
            · have hl1 : ¬ (a : Int) < (i : Int) := by omega
              by_cases hr : mid < en ∧ en < b
              · have hr1 : (mid : Int) < (en : Int) := by omega
                have hr2 : (en : Int) < (b : Int) := by omega
                have hc := HIH.out mid en b d2 _ (by omega) (by omega) S3.out (by omega) (by omega) (by omega) MR.out
                rw [hsd2] at hc
                go_wp2_with fail
                all_goals
                  refine hc.mono ?_
                  rintro e w5 ⟨rfl, d3, hS3, hs3, hP3, hO3⟩
                  have hA : Aside _ := hS3
                  have hB := Lib.hid (sorted_halves (lt := lt) (a := a) (m := mid) (b := b) (by omega) (by omega) (by omega) PL.out SL.out hP3 hO3 HX.out)
                  clear hS3 hP3 hO3 hc
                  go_wp2
                  all_goals (go_end0; exact ⟨rfl, d3, hA.out, by omega, permIn_trans _ _ _ _ _ P1.out hB.out.1, hB.out.2⟩)
              · have hB := Lib.hid (sorted_halves (lt := lt) (a := a) (m := mid) (b := b) (by omega) (by omega) (by omega) PL.out SL.out (permIn_refl d2 mid b) (show SortedIn lt mid b d2 by
                  have MR2 := MR.out
                  by_cases h1 : mid < en
                  · have : en = b := by omega
                    rw [← this]; exact MR2.left
                  · have : en = mid := by omega
                    rw [this] at MR2; exact MR2.right) HX.out)
                by_cases hr0 : mid < en
                · have hr1 : (mid : Int) < (en : Int) := by omega
                  have hr2 : ¬ (en : Int) < (b : Int) := by omega
                  go_wp2
                  all_goals (go_end0; exact ⟨rfl, d2, S3.out, by omega, permIn_trans _ _ _ _ _ P1.out hB.out.1, hB.out.2⟩)
                · have hr1 : ¬ (mid : Int) < (en : Int) := by omega
                  go_wp2
                  all_goals (go_end0; exact ⟨rfl, d2, S3.out, by omega, permIn_trans _ _ _ _ _ P1.out hB.out.1, hB.out.2⟩)

theorem symMerge_calls (enc : α → Value) (cf : α → α → Int) (lt : α → α → Bool) (hO : SWO lt) (g : Nat) (cb : Array Value) (blk off cap : Nat) (d0 : Array α) (w0 : World)
    (eg : ∀ args w, (callFunc g args).run Try.prog w = .ok (.enter g args) w) (hcmp : CmpLays1 Try.prog g cb enc cf blk off d0.size w0) (R : Row1 enc w0 blk off d0) (hsz : d0.size < 4611686018427387904) :
    ∀ N, SymAt enc lt (ltOf cf) g cb blk off cap d0 w0 N
  | 0 => fun a m b d w h1 h2 h3 h4 h5 => by omega
  | N + 1 => fun a m b d w hN hs S ham hmb hb M => by
    have IH := symMerge_calls enc cf lt hO g cb blk off cap d0 w0 eg hcmp R hsz N
    by_cases c1 : m = a + 1
    · exact symMerge_one enc cf lt hO g cb blk off cap a m b d0 d w0 w eg hcmp R hs S hb (by omega) M c1 hmb
    · by_cases c2 : b = m + 1
      · exact symMerge_last enc cf lt hO g cb blk off cap a m b d0 d w0 w eg hcmp R hs S hb (by omega) M c2 ham c1
      · by_cases c3 : (a + b) / 2 < m
        · exact symMerge_up enc cf lt hO g cb blk off cap a m b d0 d w0 w eg hcmp R hs S hb (by omega) M c1 c2 ham hmb rfl N IH hN c3
        · exact symMerge_down enc cf lt hO g cb blk off cap a m b d0 d w0 w eg hcmp R hs S hb (by omega) M c1 c2 ham hmb rfl N IH hN c3
end Go.Proofs.Yteilcchcekmooaa.G

/- PSortE -/
/-
  The library's stable sort with a comparison, walked: stable and SortStableFunc, at most 64 elements. (Printed by wip/g/gsort2.py.)
-/
set_option linter.unusedVariables false
namespace Go.Sort
variable {α : Type} [Inhabited α]
theorem insInner_agree {lt c : α → α → Bool} (a : Nat) : ∀ (j : Nat) (d : Array α), j < d.size → (∀ p, a ≤ p → p < j → c d[j]! d[p]! = lt d[j]! d[p]!) → insInner c a j d = insInner lt a j d
  | 0, _, _, _ => rfl
  | j + 1, d, hj, h => by
    unfold insInner
    by_cases hja : a ≤ j
    · rw [h j hja (by omega)]
      by_cases hc : (decide (j + 1 > a) && lt d[j + 1]! d[j]!) = true
      · rw [if_pos hc, if_pos hc]
        refine insInner_agree a j _ (by rw [size_swp]; omega) (fun p hp hpj => ?_)
        rw [swp_right d (j + 1) j (by omega), swp_other d (j + 1) j p (by omega) (by omega)]
        exact h p hp (by omega)
      · rw [if_neg hc, if_neg hc]
    · rw [if_neg (by simp; omega), if_neg (by simp; omega)]
theorem insOuter_go2 (lt : α → α → Bool) (a b i : Nat) (d : Array α) (h : i < b) : insOuter lt a b i d = insOuter lt a b (i + 1) (insInner lt a i d) := by rw [insOuter, if_pos h]
theorem insOuter_agree {lt c : α → α → Bool} (hS : SWO lt) (a b : Nat) : ∀ (n i : Nat) (d : Array α), b - i = n → a < i → i ≤ b → b ≤ d.size → SortedIn lt a i d → (∀ p q, a ≤ p → p < q → i ≤ q → q < b → c d[q]! d[p]! = lt d[q]! d[p]!) → insOuter c a b i d = insOuter lt a b i d
  | 0, i, d, hn, _, hib, _, _, _ => by rw [insOuter, if_neg (by omega), insOuter, if_neg (by omega)]
  | n + 1, i, d, hn, hai, hib, hb, hs, h => by
    have hlt : i < b := by omega
    rw [insOuter_go2 _ _ _ _ _ hlt, insOuter_go2 _ _ _ _ _ hlt, insInner_agree a i d (by omega) (fun p hp hpi => h p i hp hpi (Nat.le_refl _) hlt)]
    have h1 := insInner_spec hS swp_permIn permIn_refl permIn_trans a (i + 1) i (by omega) i d (by omega) (Nat.le_refl _) (by omega) ⟨fun p q hap hpq hqi _ hq => hs p q hap hpq (by omega), fun q h1 h2 => by omega⟩
    refine insOuter_agree hS a b n (i + 1) _ (by omega) (by omega) (by omega) (by rw [h1.1.1]; exact hb) h1.2 (fun p q hp hpq hq hqb => ?_)
    have hq' := h1.1.2.1 q (Or.inr (by omega))
    rw [hq']
    by_cases hpi : p < i + 1
    · exact permIn_all d _ a (i + 1) (fun x => c d[q]! x = lt d[q]! x) (by omega) h1.1 (fun k hk hki => h k q hk (by omega) (by omega) hqb) p hp hpi
    · rw [h1.1.2.1 p (Or.inr (by omega))]
      exact h p q hp hpq (by omega) hqb
theorem insertionSort_agree {lt c : α → α → Bool} (hS : SWO lt) (d : Array α) (a b : Nat) (hab : a ≤ b) (hb : b ≤ d.size) (h : ∀ p q, a ≤ p → p < q → q < b → c d[q]! d[p]! = lt d[q]! d[p]!) : PermIn a b d (insertionSort c d a b) ∧ SortedIn lt a b (insertionSort c d a b) := by
  have e : insertionSort c d a b = insertionSort lt d a b := by
    unfold insertionSort
    by_cases hab2 : a = b
    · rw [insOuter, if_neg (by omega), insOuter, if_neg (by omega)]
    · exact insOuter_agree hS a b (b - (a + 1)) (a + 1) d rfl (by omega) (by omega) hb (fun p q h1 h2 h3 => by omega) (fun p q h1 h2 _ h4 => h p q h1 h2 h4)
  rw [e]
  exact insertionSort_holds hS d a b hab hb
/-- Where the program's comparison is the order; where the row ascends. -/
structure Stb (lt c : α → α → Bool) (n : Nat) (d0 d : Array α) (RA RS : Nat → Nat → Prop) : Prop where
  perm : PermIn 0 n d0 d
  agr : ∀ p q, p < q → q < n → RA p q → c d[q]! d[p]! = lt d[q]! d[p]!
  srt : ∀ p q, p < q → q < n → RS p q → lt d[q]! d[p]! = false
theorem Stb.step {lt c : α → α → Bool} {n a b : Nat} {d0 d d' : Array α} {RA RS RA' RS' : Nat → Nat → Prop} (h : Stb lt c n d0 d RA RS) (hn : n ≤ d.size) (hab : a ≤ b) (hb : b ≤ n) (hp : PermIn a b d d') (hs : SortedIn lt a b d')
    (h1 : ∀ p q, p < q → q < n → RA' p q → (q < a ∨ b ≤ p ∨ (p < a ∧ b ≤ q)) ∧ RA p q ∨ (p < a ∧ a ≤ q ∧ q < b ∧ ∀ k, a ≤ k → k < b → RA p k) ∨ (a ≤ p ∧ p < b ∧ b ≤ q ∧ ∀ k, a ≤ k → k < b → RA k q))
    (h2 : ∀ p q, p < q → q < n → RS' p q → (q < a ∨ b ≤ p ∨ (p < a ∧ b ≤ q)) ∧ RS p q ∨ (a ≤ p ∧ q < b)) : Stb lt c n d0 d' RA' RS' := by
  refine ⟨permIn_trans _ _ _ _ _ h.perm (permIn_mono d d' a b 0 n (Nat.zero_le _) hb hn hp), fun p q hpq hq hr => ?_, fun p q hpq hq hr => ?_⟩
  · rcases h1 p q hpq hq hr with ⟨ho, hr⟩ | ⟨hpa, haq, hqb, hr⟩ | ⟨hap, hpb, hbq, hr⟩
    · rw [hp.2.1 p (by omega), hp.2.1 q (by omega)]
      exact h.agr p q hpq hq hr
    · rw [hp.2.1 p (by omega)]
      exact permIn_all d d' a b (fun x => c x d[p]! = lt x d[p]!) (by omega) hp (fun k hk hkb => h.agr p k (by omega) (by omega) (hr k hk hkb)) q haq hqb
    · rw [hp.2.1 q (by omega)]
      exact permIn_all d d' a b (fun x => c d[q]! x = lt d[q]! x) (by omega) hp (fun k hk hkb => h.agr k q (by omega) hq (hr k hk hkb)) p hap hpb
  · rcases h2 p q hpq hq hr with ⟨ho, hr⟩ | ⟨hap, hqb⟩
    · rw [hp.2.1 p (by omega), hp.2.1 q (by omega)]
      exact h.srt p q hpq hq hr
    · exact hs p q hap hpq hqb
theorem Stb.weak {lt c : α → α → Bool} {n : Nat} {d0 d : Array α} {RA RS RA' RS' : Nat → Nat → Prop} (h : Stb lt c n d0 d RA RS) (h1 : ∀ p q, p < q → q < n → RA' p q → RA p q) (h2 : ∀ p q, p < q → q < n → RS' p q → RS p q) : Stb lt c n d0 d RA' RS' :=
  ⟨h.perm, fun p q hpq hq hr => h.agr p q hpq hq (h1 p q hpq hq hr), fun p q hpq hq hr => h.srt p q hpq hq (h2 p q hpq hq hr)⟩
/-- By blocks of 20 up to a. -/
def RA0 (a p q : Nat) : Prop := a ≤ q ∨ p / 20 < q / 20
def RS0 (a p q : Nat) : Prop := q < a ∧ p / 20 = q / 20
/-- By blocks of s; up to a by blocks of 2 s. -/
def RA1 (s t a p q : Nat) : Prop := (a ≤ q ∧ p / s < q / s) ∨ (q < a ∧ p / t < q / t)
def RS1 (s t a p q : Nat) : Prop := (a ≤ p ∧ p / s = q / s) ∨ (q < a ∧ p / t = q / t)
def RA2 (s p q : Nat) : Prop := p / s < q / s
def RS2 (s p q : Nat) : Prop := p / s = q / s
section
variable {lt c : α → α → Bool} {n a b : Nat} {d0 d d' : Array α}
theorem Stb.start (h : ∀ p q, p < q → q < n → c d0[q]! d0[p]! = lt d0[q]! d0[p]!) : Stb lt c n d0 d0 (RA0 0) (RS0 0) :=
  ⟨permIn_refl d0 0 n, fun p q hpq hq _ => h p q hpq hq, fun p q _ _ hr => by unfold RS0 at hr; omega⟩
theorem Stb.ins (hS : SWO lt) (h : Stb lt c n d0 d (RA0 a) (RS0 a)) (hn : n ≤ d.size) (ha : a % 20 = 0) (hab : b = a + 20) (hb : b ≤ n) : Stb lt c n d0 (insertionSort c d a b) (RA0 b) (RS0 b) := by
  have hi := insertionSort_agree (c := c) hS d a b (by omega) (by omega) (fun p q h1 h2 h3 => h.agr p q h2 (by omega) (by unfold RA0; omega))
  refine h.step hn (by omega) hb hi.1 hi.2 (fun p q h1 h2 h3 => ?_) (fun p q h1 h2 h3 => ?_)
  · unfold RA0 at *
    by_cases hq : a ≤ q ∧ q < b
    · exact .inr (.inl ⟨by omega, by omega, by omega, fun k _ _ => by omega⟩)
    · by_cases hp : a ≤ p ∧ p < b
      · exact .inr (.inr ⟨by omega, by omega, by omega, fun k _ _ => by omega⟩)
      · exact .inl ⟨by omega, by omega⟩
  · unfold RS0 at *
    omega
theorem Stb.insEnd (hS : SWO lt) (h : Stb lt c n d0 d (RA0 a) (RS0 a)) (hn : n ≤ d.size) (ha : a % 20 = 0) (han : a ≤ n) (hb : n < a + 20) : Stb lt c n d0 (insertionSort c d a n) (RA2 20) (RS2 20) := by
  have hi := insertionSort_agree (c := c) hS d a n (by omega) (by omega) (fun p q h1 h2 h3 => h.agr p q h2 (by omega) (by unfold RA0; omega))
  refine h.step hn (by omega) (Nat.le_refl _) hi.1 hi.2 (fun p q h1 h2 h3 => ?_) (fun p q h1 h2 h3 => ?_)
  · unfold RA2 at h3
    unfold RA0
    by_cases hq : a ≤ q
    · exact .inr (.inl ⟨by omega, by omega, by omega, fun k _ _ => by omega⟩)
    · exact .inl ⟨by omega, by omega⟩
  · unfold RS2 at h3
    unfold RS0
    omega
theorem Stb.mrg20 (h : Stb lt c n d0 d (RA1 20 40 a) (RS1 20 40 a)) (ha : a % 40 = 0) (hab : a + 20 < b) (hb : b ≤ n) (hb2 : b ≤ a + 40) : Mrg lt c a (a + 20) b d :=
  ⟨fun p q h1 h2 h3 => h.srt p q h2 (by omega) (by unfold RS1; omega), fun p q h1 h2 h3 => h.srt p q h2 (by omega) (by unfold RS1; omega), fun p q h1 h2 h3 h4 => h.agr p q (by omega) (by omega) (by unfold RA1; omega)⟩
theorem Stb.merge20 (h : Stb lt c n d0 d (RA1 20 40 a) (RS1 20 40 a)) (hn : n ≤ d.size) (ha : a % 40 = 0) (hab : b = a + 40) (hb : b ≤ n) (hp : PermIn a b d d') (hs : SortedIn lt a b d') : Stb lt c n d0 d' (RA1 20 40 b) (RS1 20 40 b) := by
  refine h.step hn (by omega) hb hp hs (fun p q h1 h2 h3 => ?_) (fun p q h1 h2 h3 => ?_)
  · unfold RA1 at *
    by_cases hq : a ≤ q ∧ q < b
    · exact .inr (.inl ⟨by omega, by omega, by omega, fun k _ _ => by omega⟩)
    · by_cases hp : a ≤ p ∧ p < b
      · exact .inr (.inr ⟨by omega, by omega, by omega, fun k _ _ => by omega⟩)
      · exact .inl ⟨by omega, by omega⟩
  · unfold RS1 at *
    omega
theorem Stb.mergeEnd20 (h : Stb lt c n d0 d (RA1 20 40 a) (RS1 20 40 a)) (hn : n ≤ d.size) (ha : a % 40 = 0) (han : a ≤ n) (hb : n < a + 40) (hp : PermIn a n d d') (hs : SortedIn lt a n d') : Stb lt c n d0 d' (RA2 40) (RS2 40) := by
  refine h.step hn (by omega) (Nat.le_refl _) hp hs (fun p q h1 h2 h3 => ?_) (fun p q h1 h2 h3 => ?_)
  · unfold RA2 at h3
    unfold RA1
    by_cases hq : a ≤ q
    · exact .inr (.inl ⟨by omega, by omega, by omega, fun k _ _ => by omega⟩)
    · exact .inl ⟨by omega, by omega⟩
  · unfold RS2 at h3
    unfold RS1
    omega
theorem Stb.none20 (h : Stb lt c n d0 d (RA1 20 40 a) (RS1 20 40 a)) (ha : a % 40 = 0) (han : a ≤ n) (hb : n ≤ a + 20) : Stb lt c n d0 d (RA2 40) (RS2 40) :=
  h.weak (fun p q h1 h2 h3 => by unfold RA2 at h3; unfold RA1; omega) (fun p q h1 h2 h3 => by unfold RS2 at h3; unfold RS1; omega)
theorem Stb.next20 (h : Stb lt c n d0 d (RA2 20) (RS2 20)) : Stb lt c n d0 d (RA1 20 40 0) (RS1 20 40 0) :=
  h.weak (fun p q h1 h2 h3 => by unfold RA1 at h3; unfold RA2; omega) (fun p q h1 h2 h3 => by unfold RS1 at h3; unfold RS2; omega)
theorem Stb.mrg40 (h : Stb lt c n d0 d (RA1 40 80 a) (RS1 40 80 a)) (ha : a % 80 = 0) (hab : a + 40 < b) (hb : b ≤ n) (hb2 : b ≤ a + 80) : Mrg lt c a (a + 40) b d :=
  ⟨fun p q h1 h2 h3 => h.srt p q h2 (by omega) (by unfold RS1; omega), fun p q h1 h2 h3 => h.srt p q h2 (by omega) (by unfold RS1; omega), fun p q h1 h2 h3 h4 => h.agr p q (by omega) (by omega) (by unfold RA1; omega)⟩
theorem Stb.merge40 (h : Stb lt c n d0 d (RA1 40 80 a) (RS1 40 80 a)) (hn : n ≤ d.size) (ha : a % 80 = 0) (hab : b = a + 80) (hb : b ≤ n) (hp : PermIn a b d d') (hs : SortedIn lt a b d') : Stb lt c n d0 d' (RA1 40 80 b) (RS1 40 80 b) := by
  refine h.step hn (by omega) hb hp hs (fun p q h1 h2 h3 => ?_) (fun p q h1 h2 h3 => ?_)
  · unfold RA1 at *
    by_cases hq : a ≤ q ∧ q < b
    · exact .inr (.inl ⟨by omega, by omega, by omega, fun k _ _ => by omega⟩)
    · by_cases hp : a ≤ p ∧ p < b
      · exact .inr (.inr ⟨by omega, by omega, by omega, fun k _ _ => by omega⟩)
      · exact .inl ⟨by omega, by omega⟩
  · unfold RS1 at *
    omega
theorem Stb.mergeEnd40 (h : Stb lt c n d0 d (RA1 40 80 a) (RS1 40 80 a)) (hn : n ≤ d.size) (ha : a % 80 = 0) (han : a ≤ n) (hb : n < a + 80) (hp : PermIn a n d d') (hs : SortedIn lt a n d') : Stb lt c n d0 d' (RA2 80) (RS2 80) := by
  refine h.step hn (by omega) (Nat.le_refl _) hp hs (fun p q h1 h2 h3 => ?_) (fun p q h1 h2 h3 => ?_)
  · unfold RA2 at h3
    unfold RA1
    by_cases hq : a ≤ q
    · exact .inr (.inl ⟨by omega, by omega, by omega, fun k _ _ => by omega⟩)
    · exact .inl ⟨by omega, by omega⟩
  · unfold RS2 at h3
    unfold RS1
    omega
theorem Stb.none40 (h : Stb lt c n d0 d (RA1 40 80 a) (RS1 40 80 a)) (ha : a % 80 = 0) (han : a ≤ n) (hb : n ≤ a + 40) : Stb lt c n d0 d (RA2 80) (RS2 80) :=
  h.weak (fun p q h1 h2 h3 => by unfold RA2 at h3; unfold RA1; omega) (fun p q h1 h2 h3 => by unfold RS2 at h3; unfold RS1; omega)
theorem Stb.next40 (h : Stb lt c n d0 d (RA2 40) (RS2 40)) : Stb lt c n d0 d (RA1 40 80 0) (RS1 40 80 0) :=
  h.weak (fun p q h1 h2 h3 => by unfold RA1 at h3; unfold RA2; omega) (fun p q h1 h2 h3 => by unfold RS1 at h3; unfold RS2; omega)
theorem Stb.end20 (h : Stb lt c n d0 d (RA2 20) (RS2 20)) (hn : n ≤ 20) : PermIn 0 n d0 d ∧ SortedIn lt 0 n d :=
  ⟨h.perm, fun p q _ h2 h3 => h.srt p q h2 h3 (by unfold RS2; omega)⟩
theorem Stb.end40 (h : Stb lt c n d0 d (RA2 40) (RS2 40)) (hn : n ≤ 40) : PermIn 0 n d0 d ∧ SortedIn lt 0 n d :=
  ⟨h.perm, fun p q _ h2 h3 => h.srt p q h2 h3 (by unfold RS2; omega)⟩
theorem Stb.end80 (h : Stb lt c n d0 d (RA2 80) (RS2 80)) (hn : n ≤ 80) : PermIn 0 n d0 d ∧ SortedIn lt 0 n d :=
  ⟨h.perm, fun p q _ h2 h3 => h.srt p q h2 h3 (by unfold RS2; omega)⟩
end
end Go.Sort
namespace Go.Proofs.Yteilcchcekmooaa.G
open Go.Shelf Go.RowKit Go.Lib Go.Sort
set_option linter.unusedVariables false
set_option linter.unusedSimpArgs false
variable {α : Type} [Inhabited α]
set_option maxHeartbeats 16000000 in
set_option maxRecDepth 1000000 in
theorem stable_calls (enc : α → Value) (cf : α → α → Int) (lt : α → α → Bool) (hO : SWO lt) (g : Nat) (cb : Array Value) (blk off cap n : Nat) (d0 : Array α) (w0 : World)
    (eg : ∀ args w, (callFunc g args).run Try.prog w = .ok (.enter g args) w) (hcmp : CmpLays1 Try.prog g cb enc cf blk off d0.size w0) (R : Row1 enc w0 blk off d0) (hn : n = d0.size) (h64 : n ≤ 64) (hag : ∀ p q, p < q → q < n → ltOf cf d0[q]! d0[p]! = lt d0[q]! d0[p]!) :
    Calls Try.prog 39 #[.slice (some ⟨blk, off, none⟩) d0.size cap, .int .i64 n, .func (.func g) #[] cb] w0 fun e w' => e = .returned (.tuple #[]) ∧ ∃ d', SW enc w0 blk off d' w' ∧ d'.size = d0.size ∧ PermIn 0 n d0 d' ∧ SortedIn lt 0 n d' := by
  have S0 : Aside (SW enc w0 blk off d0 w0) := SW.start R.hH
  have HC : Aside _ := hcmp
  have HS0 := Lib.hid (Stb.start (lt := lt) (c := ltOf cf) (n := n) (d0 := d0) hag)
  have hsz : n ≤ d0.size := by omega
  have hsz2 : d0.size ≤ n := by omega
  clear hcmp hag hn
  obtain ⟨wS, hwS⟩ : ∃ wS, wS = w0 := ⟨_, rfl⟩
  have HWS := Lib.hid hwS
  rw [← hwS] at S0
  suffices hmain : Calls Try.prog 39 #[.slice (some ⟨blk, off, none⟩) d0.size cap, .int .i64 n, .func (.func g) #[] cb] wS fun e w' => e = .returned (.tuple #[]) ∧ ∃ d', SW enc w0 blk off d' w' ∧ d'.size = d0.size ∧ PermIn 0 n d0 d' ∧ SortedIn lt 0 n d' by
    rw [hwS] at hmain; exact hmain
  have S0' : Aside (SW enc w0 blk off d0 wS) := by rw [hwS]; exact SW.start R.hH
  clear S0 hwS HWS
  go_enter Try.func39, Try.ntmps39
  go_wp2
  go_loopg [7, 8] n (fun gk s7 s8 wr => ∃ (a b : Nat) (dk : Array α), s7 = .int .i64 a ∧ s8 = .int .i64 b ∧ a ≤ n ∧ b ≤ a + 20 ∧ a + 20 ≤ b ∧ n - a ≤ gk ∧ dk.size = d0.size ∧ Hid (a % 20 = 0) ∧ Aside (SW enc w0 blk off dk wr) ∧ Hid (Stb lt (ltOf cf) n d0 dk (RA0 a) (RS0 a)))
  case atStart => exact ⟨0, 20, d0, rfl, rfl, by omega, by omega, by omega, by omega, rfl, rfl, S0', HS0⟩
  case round =>
    clear S0' HS0
    obtain ⟨a, b, dk, rfl, rfl, han, hb1, hb2, hgk, hds, HA, S1, HB⟩ := hrel
    by_cases hlt : b ≤ n
    · have hltz : (b : Int) ≤ (n : Int) := by omega
      have hc := Try.insertionSortCmpFunc_s enc cf g cb blk off cap a b d0 dk w0 wr eg HC.out R hds.symm S1.out (by omega) (by omega) (by omega)
      rw [hds] at hc
      have HB2 := Lib.hid (HB.out.ins hO (by omega) HA.out (by omega : b = a + 20) hlt)
      have hsi : (insertionSort (ltOf cf) dk a b).size = d0.size := by rw [(insertionSort_agree (lt := lt) (c := ltOf cf) hO dk a b (by omega) (by omega) (fun p q h1 h2 h3 => HB.out.agr p q h2 (by omega) (by unfold RA0; omega))).1.1]; exact hds
      generalize insertionSort (ltOf cf) dk a b = d2 at hc HB2 hsi
      go_wp2_with fail
      refine hc.mono ?_
      rintro e w2 ⟨rfl, hS2⟩
      have S2 : Aside _ := hS2
      clear hS2 hc S1 HB
      go_wp2
      go_roundg (n - b)
      case measure => omega
      case rel => exact ⟨b, b + 20, d2, rfl, by go_num, hlt, by omega, by omega, Nat.le_refl _, hsi, (show Hid _ from by have := HA.out; unfold Hid; omega), S2, HB2⟩
    · have hltz : ¬ (b : Int) ≤ (n : Int) := by omega
      have hc := Try.insertionSortCmpFunc_s enc cf g cb blk off cap a n d0 dk w0 wr eg HC.out R hds.symm S1.out (by omega) (by omega) (by omega)
      rw [hds] at hc
      have HB2 := Lib.hid (HB.out.insEnd hO (by omega) HA.out (by omega) (by omega))
      have hsi : (insertionSort (ltOf cf) dk a n).size = d0.size := by rw [(insertionSort_agree (lt := lt) (c := ltOf cf) hO dk a n (by omega) (by omega) (fun p q h1 h2 h3 => HB.out.agr p q h2 (by omega) (by unfold RA0; omega))).1.1]; exact hds
      generalize insertionSort (ltOf cf) dk a n = d2 at hc HB2 hsi
      go_wp2_with fail
      refine hc.mono ?_
      rintro e w2 ⟨rfl, hS2⟩
      have S2 : Aside _ := hS2
      clear hS2 hc S1 HB HA hgk hb1 hb2 hlt hltz han hds
      go_wp2
      go_loopg [6] 3 (fun gk s6 wr => ∃ (s : Nat) (dk : Array α), s6 = .int .i64 s ∧ Hid ((s = 20 ∧ 2 ≤ gk) ∨ (s = 40 ∧ 1 ≤ gk) ∨ s = 80) ∧ dk.size = d0.size ∧ Aside (SW enc w0 blk off dk wr) ∧ Hid (Stb lt (ltOf cf) n d0 dk (RA2 s) (RS2 s)))
      case atStart => exact ⟨20, d2, rfl, Or.inl ⟨rfl, by omega⟩, hsi, S2, HB2⟩
      case round =>
        clear S2 HB2 hsi
        obtain ⟨s, dk, rfl, HSS, hds, S1, HB⟩ := hrel
        rcases HSS.out with ⟨rfl, hg2⟩ | ⟨rfl, hg2⟩ | rfl
        · clear HSS
          by_cases hsn : 20 < n
          · have hsnz : (20 : Int) < (n : Int) := by omega
            have HB0 := Lib.hid (HB.out.next20)
            clear HB
            go_wp2
            go_loopg [7, 8] n (fun gk s7 s8 wr => ∃ (a b : Nat) (dk : Array α), s7 = .int .i64 a ∧ s8 = .int .i64 b ∧ a ≤ n ∧ b ≤ a + 40 ∧ a + 40 ≤ b ∧ n - a ≤ gk ∧ dk.size = d0.size ∧ Hid (a % 40 = 0) ∧ Aside (SW enc w0 blk off dk wr) ∧ Hid (Stb lt (ltOf cf) n d0 dk (RA1 20 40 a) (RS1 20 40 a)))
            case atStart => exact ⟨0, 40, dk, rfl, rfl, by omega, by omega, by omega, by omega, hds, rfl, S1, HB0⟩
            case round =>
              clear S1 HB0 hds
              obtain ⟨a, b, dk, rfl, rfl, han, hb1, hb2, hgk, hds, HA, S1, HB⟩ := hrel
              by_cases hlt : b ≤ n
              · have hltz : (b : Int) ≤ (n : Int) := by omega
                have hc := symMerge_calls enc cf lt hO g cb blk off cap d0 w0 eg HC.out R (by omega) (b - a) a (a + 20) b dk wr (Nat.le_refl _) hds.symm S1.out (by omega) (by omega) (by omega) (HB.out.mrg20 HA.out (by omega) hlt (by omega))
                rw [hds, show ((a + 20 : Nat) : Int) = (a : Int) + 20 by omega] at hc
                go_wp2_with fail
                refine hc.mono ?_
                rintro e w2 ⟨rfl, d2, hS2, hsi, hP2, hO2⟩
                have S2 : Aside _ := hS2
                have HB2 := Lib.hid (HB.out.merge20 (by omega) HA.out (by omega : b = a + 40) hlt hP2 hO2)
                clear hS2 hc S1 HB hP2 hO2
                go_wp2
                go_roundg (n - b)
                case measure => omega
                case rel => exact ⟨b, b + 40, d2, rfl, by go_num, hlt, by omega, by omega, Nat.le_refl _, hsi, (show Hid _ from by have := HA.out; unfold Hid; omega), S2, HB2⟩
              · have hltz : ¬ (b : Int) ≤ (n : Int) := by omega
                by_cases hm : a + 20 < n
                · have hmz : (a : Int) + 20 < (n : Int) := by omega
                  have hc := symMerge_calls enc cf lt hO g cb blk off cap d0 w0 eg HC.out R (by omega) (n - a) a (a + 20) n dk wr (Nat.le_refl _) hds.symm S1.out (by omega) (by omega) (by omega) (HB.out.mrg20 HA.out (by omega) (Nat.le_refl _) (by omega))
                  rw [hds, show ((a + 20 : Nat) : Int) = (a : Int) + 20 by omega] at hc
                  go_wp2_with fail
                  refine hc.mono ?_
                  rintro e w2 ⟨rfl, d2, hS2, hsi, hP2, hO2⟩
                  have S2 : Aside _ := hS2
                  have HB2 := Lib.hid (HB.out.mergeEnd20 (by omega) HA.out han (by omega) hP2 hO2)
                  clear hS2 hc S1 HB hP2 hO2
                  go_wp2
                  go_roundg 1
                  case measure => omega
                  case rel => exact ⟨40, d2, by first | rfl | go_num, Or.inr (Or.inl ⟨rfl, by omega⟩), hsi, S2, HB2⟩
                · have hmz : ¬ (a : Int) + 20 < (n : Int) := by omega
                  have HB2 := Lib.hid (HB.out.none20 HA.out han (by omega))
                  clear HB
                  go_wp2
                  go_roundg 1
                  case measure => omega
                  case rel => exact ⟨40, dk, by first | rfl | go_num, Or.inr (Or.inl ⟨rfl, by omega⟩), hds, S1, HB2⟩
          · have hsnz : ¬ (20 : Int) < (n : Int) := by omega
            go_wp2
            go_end0
            exact ⟨rfl, dk, S1.out, hds, HB.out.end20 (by omega)⟩
        · clear HSS
          by_cases hsn : 40 < n
          · have hsnz : (40 : Int) < (n : Int) := by omega
            have HB0 := Lib.hid (HB.out.next40)
            clear HB
            go_wp2
            go_loopg [7, 8] n (fun gk s7 s8 wr => ∃ (a b : Nat) (dk : Array α), s7 = .int .i64 a ∧ s8 = .int .i64 b ∧ a ≤ n ∧ b ≤ a + 80 ∧ a + 80 ≤ b ∧ n - a ≤ gk ∧ dk.size = d0.size ∧ Hid (a % 80 = 0) ∧ Aside (SW enc w0 blk off dk wr) ∧ Hid (Stb lt (ltOf cf) n d0 dk (RA1 40 80 a) (RS1 40 80 a)))
            case atStart => exact ⟨0, 80, dk, rfl, rfl, by omega, by omega, by omega, by omega, hds, rfl, S1, HB0⟩
            case round =>
              clear S1 HB0 hds
              obtain ⟨a, b, dk, rfl, rfl, han, hb1, hb2, hgk, hds, HA, S1, HB⟩ := hrel
              by_cases hlt : b ≤ n
              · have hltz : (b : Int) ≤ (n : Int) := by omega
                have hc := symMerge_calls enc cf lt hO g cb blk off cap d0 w0 eg HC.out R (by omega) (b - a) a (a + 40) b dk wr (Nat.le_refl _) hds.symm S1.out (by omega) (by omega) (by omega) (HB.out.mrg40 HA.out (by omega) hlt (by omega))
                rw [hds, show ((a + 40 : Nat) : Int) = (a : Int) + 40 by omega] at hc
                go_wp2_with fail
                refine hc.mono ?_
                rintro e w2 ⟨rfl, d2, hS2, hsi, hP2, hO2⟩
                have S2 : Aside _ := hS2
                have HB2 := Lib.hid (HB.out.merge40 (by omega) HA.out (by omega : b = a + 80) hlt hP2 hO2)
                clear hS2 hc S1 HB hP2 hO2
                go_wp2
                go_roundg (n - b)
                case measure => omega
                case rel => exact ⟨b, b + 80, d2, rfl, by go_num, hlt, by omega, by omega, Nat.le_refl _, hsi, (show Hid _ from by have := HA.out; unfold Hid; omega), S2, HB2⟩
              · have hltz : ¬ (b : Int) ≤ (n : Int) := by omega
                by_cases hm : a + 40 < n
                · have hmz : (a : Int) + 40 < (n : Int) := by omega
                  have hc := symMerge_calls enc cf lt hO g cb blk off cap d0 w0 eg HC.out R (by omega) (n - a) a (a + 40) n dk wr (Nat.le_refl _) hds.symm S1.out (by omega) (by omega) (by omega) (HB.out.mrg40 HA.out (by omega) (Nat.le_refl _) (by omega))
                  rw [hds, show ((a + 40 : Nat) : Int) = (a : Int) + 40 by omega] at hc
                  go_wp2_with fail
                  refine hc.mono ?_
                  rintro e w2 ⟨rfl, d2, hS2, hsi, hP2, hO2⟩
                  have S2 : Aside _ := hS2
                  have HB2 := Lib.hid (HB.out.mergeEnd40 (by omega) HA.out han (by omega) hP2 hO2)
                  clear hS2 hc S1 HB hP2 hO2
                  go_wp2
                  go_roundg 0
                  case measure => omega
                  case rel => exact ⟨80, d2, by first | rfl | go_num, Or.inr (Or.inr rfl), hsi, S2, HB2⟩
                · have hmz : ¬ (a : Int) + 40 < (n : Int) := by omega
                  have HB2 := Lib.hid (HB.out.none40 HA.out han (by omega))
                  clear HB
                  go_wp2
                  go_roundg 0
                  case measure => omega
                  case rel => exact ⟨80, dk, by first | rfl | go_num, Or.inr (Or.inr rfl), hds, S1, HB2⟩
          · have hsnz : ¬ (40 : Int) < (n : Int) := by omega
            go_wp2
            go_end0
            exact ⟨rfl, dk, S1.out, hds, HB.out.end40 (by omega)⟩
        · have hsnz : ¬ (80 : Int) < (n : Int) := by omega
          go_wp2
          go_end0
          exact ⟨rfl, dk, S1.out, hds, HB.out.end80 (by omega)⟩

set_option maxHeartbeats 4000000 in
set_option maxRecDepth 1000000 in
theorem sortStable_calls (enc : α → Value) (cf : α → α → Int) (lt : α → α → Bool) (hO : SWO lt) (g : Nat) (cb : Array Value) (blk off cap : Nat) (d0 : Array α) (w0 : World)
    (eg : ∀ args w, (callFunc g args).run Try.prog w = .ok (.enter g args) w) (hcmp : CmpLays1 Try.prog g cb enc cf blk off d0.size w0) (R : Row1 enc w0 blk off d0) (h64 : d0.size ≤ 64) (hag : ∀ p q, p < q → q < d0.size → ltOf cf d0[q]! d0[p]! = lt d0[q]! d0[p]!) :
    Calls Try.prog 34 #[.slice (some ⟨blk, off, none⟩) d0.size cap, .func (.func g) #[] cb] w0 fun e w' => e = .returned (.tuple #[]) ∧ ∃ d', SW enc w0 blk off d' w' ∧ d'.size = d0.size ∧ PermIn 0 d0.size d0 d' ∧ SortedIn lt 0 d0.size d' := by
  have hc := Lib.hid (stable_calls enc cf lt hO g cb blk off cap d0.size d0 w0 eg hcmp R rfl h64 hag)
  clear hcmp hag R
  go_enter Try.func34, Try.ntmps34
  go_wp2_with fail
  refine hc.out.mono ?_
  rintro e w2 ⟨rfl, d2, hS2, hsi, hP2, hO2⟩
  have S2 : Aside _ := hS2
  have HP := Lib.hid (And.intro hP2 hO2)
  clear hS2 hc hP2 hO2
  go_wp2
  go_end0
  exact ⟨rfl, d2, S2.out, hsi, HP.out⟩
end Go.Proofs.Yteilcchcekmooaa.G

/- PQuoP -/
/-
  quotas in plain Lean: shares by weights, and one more for the greatest rests.
-/
namespace Go.Proofs.Yteilcchcekmooaa.G
open Go.RowKit Go.Sort
open Go.Proofs.YteilcchcekmooaaW.PrintWords Go.Proofs.YteilcchcekmooaaW.PrintLast Go.Proofs.YteilcchcekmooaaW.PrintMore
set_option linter.unusedVariables false
set_option linter.unusedSimpArgs false
structure QPre (m : Int) (ws op : List Int) : Prop where
  m0 : 0 ≤ m
  m1 : m ≤ 10000
  n0 : 0 < op.length
  n1 : op.length ≤ 64
  at_ : ∀ k : Nat, k < op.length → 0 ≤ rd op (k : Int) ∧ rd op (k : Int) < ws.length ∧ 1 ≤ rd ws (rd op (k : Int)) ∧ rd ws (rd op (k : Int)) ≤ 1000
def wQ (ws op : List Int) (k : Nat) : Int := rd ws (rd op (k : Int))
def sumQ (ws op : List Int) : Nat → Int
  | 0 => 0
  | k + 1 => sumQ ws op k + wQ ws op k
def qQ (m : Int) (ws op : List Int) (k : Nat) : Int := Int.tdiv (m * wQ ws op k) (sumQ ws op op.length)
def restQ (m : Int) (ws op : List Int) (k : Nat) : Int := Int.tmod (m * wQ ws op k) (sumQ ws op op.length)
def outQ (m : Int) (ws op : List Int) : Nat → List Int
  | 0 => []
  | k + 1 => outQ m ws op k ++ [qQ m ws op k]
def leftQ (m : Int) (ws op : List Int) : Nat → Int
  | 0 => m
  | k + 1 => leftQ m ws op k - qQ m ws op k
def ltQ (m : Int) (ws op : List Int) (j k : Nat) : Bool := decide (restQ m ws op k < restQ m ws op j) || (decide (restQ m ws op j = restQ m ws op k) && decide (j < k))
def rankQ (m : Int) (ws op : List Int) (k : Nat) : Nat := (List.range op.length).countP (fun j => ltQ m ws op j k)
def quoL (m : Int) (ws op : List Int) : List Int := (List.range op.length).map (fun k => qQ m ws op k + if (rankQ m ws op k : Int) < leftQ m ws op op.length then 1 else 0)
section
variable {m : Int} {ws op : List Int}
theorem sumQ_bound (h : QPre m ws op) : ∀ k, k ≤ op.length → (k : Int) ≤ sumQ ws op k ∧ sumQ ws op k ≤ 1000 * k
  | 0, _ => by simp [sumQ]
  | k + 1, hk => by
    have ih := sumQ_bound h k (by omega)
    have hw := h.at_ k (by omega)
    rw [sumQ]
    unfold wQ
    omega
theorem sumQ_pos (h : QPre m ws op) : 0 < sumQ ws op op.length ∧ sumQ ws op op.length ≤ 64000 := by
  have := sumQ_bound h op.length (Nat.le_refl _)
  have := h.n0
  have := h.n1
  omega
theorem mw_bound (h : QPre m ws op) {k : Nat} (hk : k < op.length) : 0 ≤ m * wQ ws op k ∧ m * wQ ws op k ≤ 10000000 := by
  have hw := h.at_ k hk
  have h1 := h.m0
  have h2 := h.m1
  refine ⟨Int.mul_nonneg h1 (by unfold wQ; omega), ?_⟩
  have e1 : m * wQ ws op k ≤ 10000 * wQ ws op k := Int.mul_le_mul_of_nonneg_right h2 (by unfold wQ; omega)
  unfold wQ at *
  omega
theorem qQ_bound (h : QPre m ws op) {k : Nat} (hk : k < op.length) : 0 ≤ qQ m ws op k ∧ qQ m ws op k ≤ 10000000 := by
  have hm := mw_bound h hk
  have hs := sumQ_pos h
  unfold qQ
  rw [Int.tdiv_eq_ediv_of_nonneg hm.1]
  exact ⟨Int.ediv_nonneg hm.1 (by omega), Int.le_trans (Int.ediv_le_self _ hm.1) hm.2⟩
theorem restQ_bound (h : QPre m ws op) {k : Nat} (hk : k < op.length) : 0 ≤ restQ m ws op k ∧ restQ m ws op k < sumQ ws op op.length :=
  ⟨Int.tmod_nonneg _ (mw_bound h hk).1, Int.tmod_lt_of_pos _ (sumQ_pos h).1⟩
theorem qr_eq (m : Int) (ws op : List Int) (k : Nat) : sumQ ws op op.length * qQ m ws op k + restQ m ws op k = m * wQ ws op k := Int.mul_tdiv_add_tmod _ _
def restS (m : Int) (ws op : List Int) : Nat → Int
  | 0 => 0
  | k + 1 => restS m ws op k + restQ m ws op k
theorem left_eq (h : QPre m ws op) : ∀ k, k ≤ op.length → sumQ ws op op.length * leftQ m ws op k = m * sumQ ws op op.length - m * sumQ ws op k + restS m ws op k ∧ 0 ≤ restS m ws op k ∧ restS m ws op k ≤ k * (sumQ ws op op.length - 1) ∧ m - 10000000 * k ≤ leftQ m ws op k ∧ leftQ m ws op k ≤ m
  | 0, _ => by
    have := h.m0
    simp [leftQ, sumQ, restS, Int.mul_comm]
  | k + 1, hk => by
    obtain ⟨h1, h2, h3, h4, h5⟩ := left_eq h k (by omega)
    have hr := restQ_bound h (show k < op.length by omega)
    have hq := qQ_bound h (show k < op.length by omega)
    have he := qr_eq m ws op k
    rw [leftQ, sumQ, restS, Int.mul_sub, Int.mul_add, h1]
    refine ⟨by omega, by omega, ?_, by omega, by omega⟩
    rw [show ((k + 1 : Nat) : Int) * (sumQ ws op op.length - 1) = k * (sumQ ws op op.length - 1) + (sumQ ws op op.length - 1) by rw [Int.natCast_add, Int.add_mul]; omega]
    omega
theorem left_bound (h : QPre m ws op) : 0 ≤ leftQ m ws op op.length ∧ leftQ m ws op op.length < op.length := by
  obtain ⟨h1, h2, h3, _, _⟩ := left_eq h op.length (Nat.le_refl _)
  have hs := sumQ_pos h
  have hn := h.n0
  have e : sumQ ws op op.length * leftQ m ws op op.length = restS m ws op op.length := by omega
  constructor
  · rcases Int.lt_or_le (leftQ m ws op op.length) 0 with hc | hc
    · have := Int.mul_neg_of_pos_of_neg hs.1 hc
      omega
    · exact hc
  · rcases Int.lt_or_le (leftQ m ws op op.length) op.length with hc | hc
    · exact hc
    · have e1 : sumQ ws op op.length * op.length ≤ sumQ ws op op.length * leftQ m ws op op.length := Int.mul_le_mul_of_nonneg_left hc (by omega)
      have e2 : (op.length : Int) * (sumQ ws op op.length - 1) = sumQ ws op op.length * op.length - op.length := by rw [Int.mul_sub, Int.mul_comm]; omega
      omega
theorem outQ_len (m : Int) (ws op : List Int) : ∀ k, (outQ m ws op k).length = k
  | 0 => rfl
  | k + 1 => by rw [outQ, List.length_append, outQ_len m ws op k]; rfl
theorem outQ_map (m : Int) (ws op : List Int) : ∀ k, outQ m ws op k = (List.range k).map (qQ m ws op)
  | 0 => rfl
  | k + 1 => by rw [outQ, outQ_map m ws op k, List.range_succ, List.map_append]; rfl
def ordQ (k : Nat) : List Int := (List.range k).map (fun j : Nat => (j : Int))
theorem ordQ_succ (k : Nat) : ordQ (k + 1) = ordQ k ++ [(k : Int)] := by unfold ordQ; rw [List.range_succ, List.map_append]; rfl
theorem ordQ_len (k : Nat) : (ordQ k).length = k := by simp [ordQ]
theorem ordQ_rd {n j : Nat} (h : j < n) : rd (ordQ n) (j : Int) = j := by
  unfold rd ordQ
  rw [Int.toNat_natCast, List.getD_eq_getElem?_getD, List.getElem?_eq_getElem (by simpa using h)]
  simp
/-! ### the order of the rests -/
theorem ltQ_iff {j k : Nat} : ltQ m ws op j k = true ↔ restQ m ws op k < restQ m ws op j ∨ (restQ m ws op j = restQ m ws op k ∧ j < k) := by
  unfold ltQ; simp
theorem ltQ_false {j k : Nat} : ltQ m ws op j k = false ↔ ¬ (restQ m ws op k < restQ m ws op j ∨ (restQ m ws op j = restQ m ws op k ∧ j < k)) := by
  rw [← ltQ_iff]; simp
theorem swo_ltQ (m : Int) (ws op : List Int) (n : Nat) : SWO (fun (x y : Fin n) => ltQ m ws op x.val y.val) where
  irrefl x := by rw [ltQ_false]; omega
  trans x y z h1 h2 := by rw [ltQ_iff] at *; omega
  ntrans x y z h1 h2 := by rw [ltQ_false] at *; omega
theorem ltQ_total {j k : Nat} (h : j ≠ k) (hl : ltQ m ws op j k = false) : ltQ m ws op k j = true := by rw [ltQ_false] at hl; rw [ltQ_iff]; omega
/-- What the sort has made: the places in the order of their ranks. -/
structure Ranked (m : Int) (ws op : List Int) (p : Nat → Nat) : Prop where
  lt : ∀ t, t < op.length → p t < op.length
  inj : ∀ s t, s < op.length → t < op.length → p s = p t → s = t
  all : ∀ i, i < op.length → ∃ t, t < op.length ∧ p t = i
  asc : ∀ s t, s < t → t < op.length → ltQ m ws op (p s) (p t) = true
theorem Ranked.perm {p : Nat → Nat} (h : Ranked m ws op p) : ((List.range op.length).map p).Perm (List.range op.length) := by
  have hnd : ((List.range op.length).map p).Nodup := by
    refine List.pairwise_map.2 (List.Pairwise.imp_of_mem (fun {a b} ha hb hab => ?_) (List.nodup_range (n := op.length)))
    intro e
    exact hab (h.inj a b (List.mem_range.1 ha) (List.mem_range.1 hb) e)
  refine (List.perm_ext_iff_of_nodup hnd List.nodup_range).2 (fun x => ?_)
  simp only [List.mem_map, List.mem_range]
  constructor
  · rintro ⟨t, ht, rfl⟩; exact h.lt t ht
  · intro hx
    obtain ⟨t, ht, e⟩ := h.all x hx
    exact ⟨t, ht, e⟩
theorem countP_lt : ∀ (n t : Nat), t ≤ n → (List.range n).countP (fun s => decide (s < t)) = t
  | 0, t, h => by have : t = 0 := by omega
                  subst this; rfl
  | n + 1, t, h => by
    rw [List.range_succ, List.countP_append]
    by_cases ht : t ≤ n
    · rw [countP_lt n t ht]
      simp
      omega
    · have : t = n + 1 := by omega
      subst this
      have e : (List.range n).countP (fun s => decide (s < n + 1)) = (List.range n).countP (fun s => decide (s < n)) := List.countP_congr (fun x hx => by
        have := List.mem_range.1 hx
        simp; omega)
      rw [e, countP_lt n n (Nat.le_refl _)]
      simp
theorem Ranked.rank {p : Nat → Nat} (h : Ranked m ws op p) {t : Nat} (ht : t < op.length) : rankQ m ws op (p t) = t := by
  unfold rankQ
  rw [← h.perm.countP_eq, List.countP_map]
  rw [← countP_lt op.length t (by omega)]
  refine List.countP_congr (fun s hs => ?_)
  have hs' := List.mem_range.1 hs
  simp only [Function.comp]
  rw [countP_lt op.length t (by omega)]
  rcases Nat.lt_trichotomy s t with hc | hc | hc
  · simp [h.asc s t hc ht, hc]
  · subst hc
    have : ltQ m ws op (p s) (p s) = false := by rw [ltQ_false]; omega
    simp [this]
  · have h1 := h.asc t s hc hs'
    have : ltQ m ws op (p s) (p t) = false := by rw [ltQ_iff] at h1; rw [ltQ_false]; omega
    simp [this]; omega
/-- The shares when the first k of the order have theirs. -/
def outE (m : Int) (ws op : List Int) (p : Nat → Nat) (k : Nat) : List Int := (List.range op.length).map (fun i => qQ m ws op i + if rankQ m ws op i < k then 1 else 0)
theorem outE_zero (p : Nat → Nat) : outE m ws op p 0 = outQ m ws op op.length := by
  unfold outE
  rw [outQ_map]
  simp
theorem outE_len (p : Nat → Nat) (k : Nat) : (outE m ws op p k).length = op.length := by simp [outE]
theorem outE_rd (p : Nat → Nat) (k : Nat) {i : Nat} (h : i < op.length) : rd (outE m ws op p k) (i : Int) = qQ m ws op i + if rankQ m ws op i < k then 1 else 0 := by
  unfold rd outE
  rw [Int.toNat_natCast, List.getD_eq_getElem?_getD, List.getElem?_eq_getElem (by simpa using h)]
  simp
theorem outE_get (p : Nat → Nat) (k i : Nat) (h : i < (outE m ws op p k).length) : (outE m ws op p k)[i] = qQ m ws op i + if rankQ m ws op i < k then 1 else 0 := by simp [outE]
theorem outE_step {p : Nat → Nat} (h : Ranked m ws op p) {k : Nat} (hk : k < op.length) : (outE m ws op p k).set (p k) (rd (outE m ws op p k) ((p k : Nat) : Int) + 1) = outE m ws op p (k + 1) := by
  have hp := h.lt k hk
  apply List.ext_getElem
  · simp [outE]
  · intro i h1 h2
    simp only [List.length_set, outE_len] at h1
    rw [List.getElem_set]
    by_cases e : p k = i
    · subst e
      rw [if_pos rfl, outE_rd p k hp, outE_get, h.rank hk, if_neg (by omega), if_pos (by omega)]
      omega
    · rw [if_neg e, outE_get, outE_get]
      obtain ⟨t, ht, rfl⟩ := h.all i h1
      rw [h.rank ht]
      have : t ≠ k := fun e2 => e (by rw [e2])
      congr 1
      by_cases c : t < k
      · rw [if_pos c, if_pos (by omega)]
      · rw [if_neg c, if_neg (by omega)]
theorem outE_last (p : Nat → Nat) (h : QPre m ws op) : outE m ws op p (leftQ m ws op op.length).toNat = quoL m ws op := by
  unfold outE quoL
  have := left_bound h
  refine List.map_congr_left (fun i _ => ?_)
  congr 1
  by_cases c : rankQ m ws op i < (leftQ m ws op op.length).toNat
  · rw [if_pos c, if_pos (by omega)]
  · rw [if_neg c, if_neg (by omega)]
end
end Go.Proofs.Yteilcchcekmooaa.G

/- G29 -/
-- Laid by wip/g/gprint.py out of the translation, by the kit's print program. Lean checks it.
namespace Go.Proofs.Yteilcchcekmooaa.G
open Go.RowKit Go.Proofs.YteilcchcekmooaaW.PrintWords Go.Proofs.YteilcchcekmooaaW.PrintLast Go.Proofs.YteilcchcekmooaaW.PrintMore
attribute [local go_sem] max2_int min2_int max_two min_two max_three min_three max_four min_four   -- for this text's walks alone
set_option linter.unusedVariables false
set_option linter.unusedSimpArgs false

/-! ### impl_within: function 29 -/
def impl_within.f (a0 : Int) (a1 : Int) (a2 : Int) : Option (Bool) := if a0 ≥ a1 then (some (decide (a0 ≤ a2))) else (some false)
set_option maxHeartbeats 8000000 in
set_option maxRecDepth 100000 in
theorem impl_within.calls (a0 : Int) (a1 : Int) (a2 : Int) (r : Bool) (w : World) (h : impl_within.f a0 a1 a2 = some r) :
    Calls Try.prog 29 #[.int .i64 a0, .int .i64 a1, .int .i64 a2] w fun e w' => e = .returned (.bool r) ∧ Drawn0 w w' := by
  have H : (if a0 ≥ a1 then (some (decide (a0 ≤ a2))) else (some false)) = some r := h
  clear h
  by_cases c4 : a0 ≥ a1
  · rw [if_pos c4] at H
    have c4b0 : decide (a1 ≤ a0) = true := decide_eq_true c4
    clear c4
    obtain rfl := Option.some.inj H
    go_enter Try.func29, Try.ntmps29
    go_wp2
    go_ret
    exact ⟨by first | rfl | (simp; done) | (simp [*]; done), by repeat (first | exact Drawn0.refl _ | apply Drawn0.step)⟩
  · rw [if_neg c4] at H
    have c4b0 : decide (a1 ≤ a0) = false := decide_eq_false c4
    clear c4
    obtain rfl := Option.some.inj H
    go_enter Try.func29, Try.ntmps29
    go_wp2
    go_ret
    exact ⟨by first | rfl | (simp; done) | (simp [*]; done), by repeat (first | exact Drawn0.refl _ | apply Drawn0.step)⟩

end Go.Proofs.Yteilcchcekmooaa.G

/- G38 -/
-- Laid by wip/g/gprint.py out of the translation, by the kit's print program. Lean checks it.
namespace Go.Proofs.Yteilcchcekmooaa.G
open Go.RowKit Go.Proofs.YteilcchcekmooaaW.PrintWords Go.Proofs.YteilcchcekmooaaW.PrintLast Go.Proofs.YteilcchcekmooaaW.PrintMore
attribute [local go_sem] max2_int min2_int max_two min_two max_three min_three max_four min_four   -- for this text's walks alone
set_option linter.unusedVariables false
set_option linter.unusedSimpArgs false

/-! ### slices_IndexFunc_sint_int: function 38 -/
set_option maxRecDepth 100000 in
theorem slices_IndexFunc_sint_int.calls {α : Type} (d : Kd α) (hd : d.sz = 1) (kf : Nat) (hkf : ∀ (zs : Array Value) (W : World), (callFunc kf zs).run Try.prog W = .ok (.enter kf zs) W) (caps : Array Value) (p : α → Option Bool) (A0 : Option Addr) (c0 : Nat) (l0 : List α) (r : Int) (w : World) (hr0 : Kd.C d w A0 l0.length l0) (hc0 : l0.length ≤ c0)
    (hf : ∀ (x : α) (cs : List Value) (b : Bool) (W : World), x ∈ l0 → p x = some b → d.K W x cs → Below w.heap.size w W → Calls Try.prog kf (#[((cs).headD undef)] ++ caps) W fun e w' => e = .returned (.bool b) ∧ Below W.heap.size W w') (h : idxO p l0 0 = some r) :
    Calls Try.prog 38 #[.slice A0 l0.length c0, .func (.func kf) #[] caps] w fun e w' => e = .returned (.int .i64 r) ∧ Below w.heap.size w w' := by
  have hm : l0.length ≤ 9223372036854775807 := hr0.2.1
  have HR := Lib.hid hr0
  have HF := Lib.hid hf
  have HH := Lib.hid h
  have HD := Lib.hid hd
  clear hr0 hf h hd
  go_enter Try.func38, Try.ntmps38
  go_wp2
  go_loopw [5, 8] (fun _ i wr => ∃ k : Nat, k ≤ l0.length ∧ i = .int .i64 k ∧ Hid (idxO p (l0.drop k) k = some r) ∧ Hid (Below w.heap.size w wr)) (fun _ i _ => l0.length - (intOf i).toNat)
  case atStart => exact ⟨0, by omega, rfl, HH, Below.refl _ _⟩
  case round =>
    obtain ⟨k, hk, rfl, HE, HB⟩ := hrel
    by_cases hlt : k < l0.length
    · obtain ⟨b, hp, hb1, hb2⟩ := idxO_step hlt HE.out
      have HP := Lib.hid hp
      have B1 := Lib.hid hb1
      have B2 := Lib.hid hb2
      clear hp hb1 hb2
      obtain ⟨ad, cs, rfl, hcs, hK, hcell⟩ := Kd.C_get HR.out l0[k] (k : Int) (by omega) (by omega)
      rw [HD.out] at hcs hcell
      obtain ⟨y0, rfl⟩ : ∃ y0, cs = [y0] := by match cs, hcs with | [y0], _ => exact ⟨y0, rfl⟩
      clear hcs
      simp only [Int.toNat_natCast, getD_at hlt] at hK hcell
      have HK := Lib.hid (d.K_below HB.out hK)
      clear hK
      have d0 := pw_cell_below HB.out (hcell 0 y0 rfl)
      clear hcell
      simp only [Nat.add_zero, Nat.mul_one] at d0
      cases b
      · have B3 := Lib.hid (B2.out rfl)
        clear B1 B2
        go_wp2_with fail
        refine (HF.out l0[k] _ _ _ (List.getElem_mem hlt) HP.out HK.out HB.out).mono ?_
        rintro e w' ⟨rfl, hbx⟩
        have HB2 := hid_below HB hbx
        clear hbx
        go_wp2
        go_roundw
        case rel => exact ⟨k + 1, by omega, by go_num, B3, HB2⟩
        case measure => simp [intOf]; omega
      · have B3 := Lib.hid (B1.out rfl)
        clear B1 B2
        go_wp2_with fail
        refine (HF.out l0[k] _ _ _ (List.getElem_mem hlt) HP.out HK.out HB.out).mono ?_
        rintro e w' ⟨rfl, hbx⟩
        have HB2 := hid_below HB hbx
        clear hbx
        go_wp2
        go_ret
        obtain rfl := B3.out
        exact ⟨rfl, HB2.out⟩
    · obtain rfl : k = l0.length := by omega
      go_wp2
      go_ret
      exact ⟨by rw [idxO_end HE.out]; rfl, HB.out⟩

end Go.Proofs.Yteilcchcekmooaa.G

/- G31 -/
-- Laid by wip/g/gprint.py out of the translation, by the kit's print program. Lean checks it.
namespace Go.Proofs.Yteilcchcekmooaa.G
open Go.RowKit Go.Proofs.YteilcchcekmooaaW.PrintWords Go.Proofs.YteilcchcekmooaaW.PrintLast Go.Proofs.YteilcchcekmooaaW.PrintMore
attribute [local go_sem] max2_int min2_int max_two min_two max_three min_three max_four min_four   -- for this text's walks alone
set_option linter.unusedVariables false
set_option linter.unusedSimpArgs false

/-! ### slices_ContainsFunc_sint_int: function 31 -/
theorem slices_ContainsFunc_sint_int.calls {α : Type} (d : Kd α) (hd : d.sz = 1) (kf : Nat) (hkf : ∀ (zs : Array Value) (W : World), (callFunc kf zs).run Try.prog W = .ok (.enter kf zs) W) (caps : Array Value) (p : α → Option Bool) (A0 : Option Addr) (c0 : Nat) (l0 : List α) (r : Int) (w : World) (hr0 : Kd.C d w A0 l0.length l0) (hc0 : l0.length ≤ c0)
    (hf : ∀ (x : α) (cs : List Value) (b : Bool) (W : World), x ∈ l0 → p x = some b → d.K W x cs → Below w.heap.size w W → Calls Try.prog kf (#[((cs).headD undef)] ++ caps) W fun e w' => e = .returned (.bool b) ∧ Below W.heap.size W w') (h : idxO p l0 0 = some r) :
    Calls Try.prog 31 #[.slice A0 l0.length c0, .func (.func kf) #[] caps] w fun e w' => e = .returned (.bool (decide (0 ≤ r))) ∧ Below w.heap.size w w' := by
  have HR := Lib.hid hr0
  have HF := Lib.hid hf
  have HH := Lib.hid h
  have HD := Lib.hid hd
  clear hr0 hf h hd
  go_enter Try.func31, Try.ntmps31
  go_wp2_with fail
  refine (slices_IndexFunc_sint_int.calls d HD.out kf hkf caps p A0 c0 l0 r _ HR.out hc0 HF.out HH.out).mono ?_
  rintro e w' ⟨rfl, hb⟩
  have HB := Lib.hid hb
  clear hb
  go_wp2
  go_ret
  exact ⟨rfl, HB.out⟩

end Go.Proofs.Yteilcchcekmooaa.G

/- G32 -/
-- Laid by wip/g/gprint.py out of the translation, by the kit's print program. Lean checks it.
namespace Go.Proofs.Yteilcchcekmooaa.G
open Go.RowKit Go.Proofs.YteilcchcekmooaaW.PrintWords Go.Proofs.YteilcchcekmooaaW.PrintLast Go.Proofs.YteilcchcekmooaaW.PrintMore
attribute [local go_sem] max2_int min2_int max_two min_two max_three min_three max_four min_four   -- for this text's walks alone
set_option linter.unusedVariables false
set_option linter.unusedSimpArgs false

/-! ### impl_sharesOk_1: function 32 -/
def impl_sharesOk_1.f (a0 : Int) : Option (Bool) := (impl_within.f a0 0 1000).bind fun t165 => (some (!t165))
set_option maxHeartbeats 8000000 in
set_option maxRecDepth 100000 in
theorem impl_sharesOk_1.calls (a0 : Int) (r : Bool) (w : World) (h : impl_sharesOk_1.f a0 = some r) :
    Calls Try.prog 32 #[.int .i64 a0] w fun e w' => e = .returned (.bool r) ∧ Drawn0 w w' := by
  have H : ((impl_within.f a0 0 1000).bind fun t165 => (some (!t165))) = some r := h
  clear h
  replace H := Option.bind_eq_some_iff.mp H
  obtain ⟨t165, A20, H⟩ := H
  replace H : (some (!t165)) = some r := H
  have A2 := Aside0.mk A20
  clear A20
  obtain rfl := Option.some.inj H
  go_enter Try.func32, Try.ntmps32
  go_wp2_with (first | ((with_reducible refine gate_callee (f := 29) rfl ?_); refine goesL_ (some 4) rfl rfl Try.func29 (by kernel_rfl) rfl #[.int .i64 a0, .int .i64 0, .int .i64 1000] rfl (by (try simp only [List.map_toArray, List.map_cons, List.map_nil]); first | done | rfl | (simp only [List.length_drop, List.length_take]; rfl)) ?_; (with_reducible refine (impl_within.calls a0 0 1000 t165 _ A2.out).mono ?_); rintro e w' ⟨rfl, ⟨nd, rfl⟩⟩; refine ⟨_, rfl, ?_⟩))
  go_ret
  exact ⟨by first | rfl | (simp; done) | (simp [*]; done), by repeat (first | exact Drawn0.refl _ | apply Drawn0.step)⟩

end Go.Proofs.Yteilcchcekmooaa.G

/- G33 -/
-- Laid by wip/g/gprint.py out of the translation, by the kit's print program. Lean checks it.
namespace Go.Proofs.Yteilcchcekmooaa.G
open Go.RowKit Go.Proofs.YteilcchcekmooaaW.PrintWords Go.Proofs.YteilcchcekmooaaW.PrintLast Go.Proofs.YteilcchcekmooaaW.PrintMore
attribute [local go_sem] max2_int min2_int max_two min_two max_three min_three max_four min_four   -- for this text's walks alone
set_option linter.unusedVariables false
set_option linter.unusedSimpArgs false

/-! ### impl_sharesOk_2: function 33 -/
def impl_sharesOk_2.f (a0 : Int) : Option (Bool) := (impl_within.f a0 0 10000).bind fun t166 => (some (!t166))
set_option maxHeartbeats 8000000 in
set_option maxRecDepth 100000 in
theorem impl_sharesOk_2.calls (a0 : Int) (r : Bool) (w : World) (h : impl_sharesOk_2.f a0 = some r) :
    Calls Try.prog 33 #[.int .i64 a0] w fun e w' => e = .returned (.bool r) ∧ Drawn0 w w' := by
  have H : ((impl_within.f a0 0 10000).bind fun t166 => (some (!t166))) = some r := h
  clear h
  replace H := Option.bind_eq_some_iff.mp H
  obtain ⟨t166, A20, H⟩ := H
  replace H : (some (!t166)) = some r := H
  have A2 := Aside0.mk A20
  clear A20
  obtain rfl := Option.some.inj H
  go_enter Try.func33, Try.ntmps33
  go_wp2_with (first | ((with_reducible refine gate_callee (f := 29) rfl ?_); refine goesL_ (some 4) rfl rfl Try.func29 (by kernel_rfl) rfl #[.int .i64 a0, .int .i64 0, .int .i64 10000] rfl (by (try simp only [List.map_toArray, List.map_cons, List.map_nil]); first | done | rfl | (simp only [List.length_drop, List.length_take]; rfl)) ?_; (with_reducible refine (impl_within.calls a0 0 10000 t166 _ A2.out).mono ?_); rintro e w' ⟨rfl, ⟨nd, rfl⟩⟩; refine ⟨_, rfl, ?_⟩))
  go_ret
  exact ⟨by first | rfl | (simp; done) | (simp [*]; done), by repeat (first | exact Drawn0.refl _ | apply Drawn0.step)⟩

end Go.Proofs.Yteilcchcekmooaa.G
