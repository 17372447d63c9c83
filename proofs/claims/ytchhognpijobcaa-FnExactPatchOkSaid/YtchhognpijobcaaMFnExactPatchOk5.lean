import Derived.Test.YtchhognpijobcaaMFnExactPatchOk2
import Derived.Test.YtchhognpijobcaaMFnExactPatchOk3
import Derived.Test.YtchhognpijobcaaMFnExactPatchOk4
/- PValue -/
/-
  Values: sizes, copies, equality. A value's depth is bounded: what is small is small n deep.
-/
namespace Go.Proofs.Ytchhognpijobcaa.G
open Go.RowKit Go.Proofs.YtchhognpijobcaaW.PrintWords Go.Proofs.YtchhognpijobcaaW.PrintLast Go.Proofs.YtchhognpijobcaaW.PrintMore
set_option linter.unusedVariables false
abbrev LVal := S25
abbrev IVal := S30
theorem rdLV {xs : List LVal} {i : Nat} (h : i < xs.length) : rd_T25 xs (i : Int) = xs[i] := by unfold rd_T25; rw [Int.toNat_natCast]; exact getD_at h _
theorem rdIV {xs : List IVal} {i : Nat} (h : i < xs.length) : rd_T30 xs (i : Int) = xs[i] := by unfold rd_T30; rw [Int.toNat_natCast]; exact getD_at h _
/-- Small, n deep: a value of the law's own .. -/
def SmL : Nat → LVal → Prop
  | 0, _ => False
  | n + 1, x => x.f1.size ≤ 1048576 ∧ (x.f3.length ≤ 1048576 ∧ ∀ y ∈ x.f3, y.size ≤ 1048576) ∧ (x.f4.length ≤ 1048576 ∧ ∀ y ∈ x.f4, SmL n y)
/-- .. and of the program's. -/
def SmI : Nat → IVal → Prop
  | 0, _ => False
  | n + 1, x => (-9223372036854775808 ≤ x.f2 ∧ x.f2 ≤ 9223372036854775807) ∧ x.f1.size ≤ 1048576 ∧ (x.f3.length ≤ 1048576 ∧ ∀ y ∈ x.f3, y.size ≤ 1048576) ∧ (x.f4.length ≤ 1048576 ∧ ∀ y ∈ x.f4, SmI n y)
theorem wfStrs_of {x : List ByteArray} (h : x.length ≤ 1048576 ∧ ∀ y ∈ x, y.size ≤ 1048576) : wfStrs x := ⟨by have := h.1; omega, fun y hy => by have := h.2 y hy; omega⟩
theorem strs_small {xs : List ByteArray} {left : Int} (h1 : left ≤ 1048576) (h : 0 ≤ szR left (totStrs xs)) : xs.length ≤ 1048576 ∧ ∀ y ∈ xs, y.size ≤ 1048576 := by
  have h := szR_nonneg h
  unfold totStrs at h
  refine ⟨by omega, fun y hy => ?_⟩
  have := le_sum_map ByteArray.size hy
  omega
/-- What is left, or less than nothing. -/
def Left (left : Int) (P : Prop) (r : Int) : Prop := (r < 0) ∨ (0 ≤ r ∧ r ≤ left ∧ P)
theorem szValue_tot : ∀ (n : Nat) (x : LVal) (left : Int), wfValN n x → 0 ≤ left → left ≤ 1048576 → ∃ r, Ev (fun k => laws_szValue.f k x.f0 x.f1 x.f2 x.f3 x.f4 left) r ∧ Left left (SmL n x) r
  | 0, x, left, hw, _, _ => by rw [wfValN] at hw; exact hw.elim
  | n + 1, x, left, hw, h0, h1 => by
    rw [wfValN] at hw
    obtain ⟨_, ht, _, hk, hl, hkids⟩ := hw
    unfold wfStr at ht
    have loop : ∀ (d i : Nat) (left : Int), i + d = x.f4.length → 0 ≤ left → left ≤ 1048576 → ∃ r, Ev (fun k => laws_szValueS.l0 k x.f4 left i) r ∧ Left left (∀ y ∈ x.f4.drop i, SmL n y) r := by
      intro d
      induction d with
      | zero =>
        intro i left hi h0 h1
        refine ⟨left, Ev.step (fun k => by rw [laws_szValueS.l0]) (ev_if_neg (by omega) (Ev.now _)), .inr ⟨h0, Int.le_refl _, ?_⟩⟩
        rw [List.drop_of_length_le (by omega)]; intro y hy; cases hy
      | succ d ih =>
        intro i left hid h0 h1
        have hi : i < x.f4.length := by omega
        obtain ⟨r, hr, hL⟩ := szValue_tot n x.f4[i] left (hkids _ (List.getElem_mem hi)) h0 h1
        rcases hL with hneg | ⟨hp, hle, hs⟩
        · refine ⟨-1, Ev.step (fun k => by rw [laws_szValueS.l0]) (ev_if_pos (by omega) (ev_if_pos (by omega) ?_)), .inl (by omega)⟩
          simp only [rdLV hi]
          exact Ev.bind hr (ev_if_pos hneg (Ev.now _))
        · obtain ⟨r2, hr2, hL2⟩ := ih (i + 1) r (by omega) hp (by omega)
          refine ⟨r2, Ev.step (fun k => by rw [laws_szValueS.l0]) (ev_if_pos (by omega) (ev_if_pos (by omega) ?_)), ?_⟩
          · simp only [rdLV hi, wsucc hi hl]
            exact Ev.bind hr (ev_if_neg (by omega) hr2)
          · rcases hL2 with h | ⟨a, b, c⟩
            · exact .inl h
            · refine .inr ⟨a, by omega, ?_⟩
              rw [List.drop_eq_getElem_cons hi]
              intro y hy
              rcases List.mem_cons.1 hy with rfl | hy
              · exact hs
              · exact c y hy
    by_cases c1 : left - (x.f1.size : Int) < 0
    · exact ⟨-1, Ev.step (fun k => by rw [laws_szValue.f]) (ev_if_pos (by rw [w64 (by omega) (by omega)]; exact c1) (Ev.now _)), .inl (by omega)⟩
    · have hz := szStringS_ev x.f3 (left - (x.f1.size : Int)) ⟨hk.1, hk.2⟩ (by omega) (by omega)
      have hle := szR_le (by omega : 0 ≤ left - (x.f1.size : Int)) (totStrs x.f3)
      by_cases c2 : szR (left - (x.f1.size : Int)) (totStrs x.f3) < 0
      · refine ⟨-1, Ev.step (fun k => by rw [laws_szValue.f]) ?_, .inl (by omega)⟩
        rw [w64 (by omega) (by omega)]
        exact ev_if_neg c1 (Ev.bind hz (ev_if_pos c2 (Ev.now _)))
      · have hsm := strs_small (by omega) (by omega : 0 ≤ szR (left - (x.f1.size : Int)) (totStrs x.f3))
        generalize hq : szR (left - (x.f1.size : Int)) (totStrs x.f3) = q at hz hle c2 hsm
        by_cases c3 : q - (x.f4.length : Int) < 0
        · refine ⟨-1, Ev.step (fun k => by rw [laws_szValue.f]) ?_, .inl (by omega)⟩
          rw [w64 (by omega) (by omega)]
          refine ev_if_neg c1 (Ev.bind hz (ev_if_neg c2 (Ev.bind (a := -1) (Ev.step (fun k => by rw [laws_szValueS.f]) ?_) (ev_if_pos (by omega) (Ev.now _)))))
          rw [w64 (by omega) (by omega)]
          exact ev_if_pos c3 (Ev.now _)
        · obtain ⟨r, hr, hL⟩ := loop x.f4.length 0 (q - (x.f4.length : Int)) (by omega) (by omega) (by omega)
          have hkid : Ev (fun k => laws_szValueS.f k x.f4 q) r := by
            refine Ev.step (fun k => by rw [laws_szValueS.f]) ?_
            rw [w64 (by omega) (by omega)]
            exact ev_if_neg c3 hr
          rcases hL with hneg | ⟨hp, hle2, hs⟩
          · refine ⟨-1, Ev.step (fun k => by rw [laws_szValue.f]) ?_, .inl (by omega)⟩
            rw [w64 (by omega) (by omega)]
            exact ev_if_neg c1 (Ev.bind hz (ev_if_neg c2 (Ev.bind hkid (ev_if_pos hneg (Ev.now _)))))
          · refine ⟨r, Ev.step (fun k => by rw [laws_szValue.f]) ?_, .inr ⟨hp, by omega, ?_⟩⟩
            · rw [w64 (by omega) (by omega)]
              exact ev_if_neg c1 (Ev.bind hz (ev_if_neg c2 (Ev.bind hkid (ev_if_neg (by omega) (Ev.now _)))))
            · rw [SmL]
              exact ⟨by omega, hsm, by omega, fun y hy => hs y (by rw [List.drop_zero]; exact hy)⟩
theorem toValue_tot : ∀ (n : Nat) (x : LVal), wfValN n x → SmL n x → ∃ y : IVal, Ev (fun k => laws_toValue.f k x.f0 x.f1 x.f2 x.f3 x.f4) (y.f0, y.f1, y.f2, y.f3, y.f4) ∧ SmI n y
  | 0, x, hw, _ => by rw [wfValN] at hw; exact hw.elim
  | n + 1, x, hw, hs => by
    rw [wfValN] at hw
    rw [SmL] at hs
    obtain ⟨_, _, hnum, _, _, hkids⟩ := hw
    obtain ⟨ht, hk, hl, hsk⟩ := hs
    have loop : ∀ (d i : Nat) (ys : List IVal), i + d = x.f4.length → ys.length = x.f4.length → (∀ y ∈ ys.take i, SmI n y) → ∃ zs, Ev (fun k => laws_toValueS.l0 k x.f4 ys i) zs ∧ zs.length = x.f4.length ∧ ∀ y ∈ zs, SmI n y := by
      intro d
      induction d with
      | zero =>
        intro i ys hi hy hall
        refine ⟨ys, Ev.step (fun k => by rw [laws_toValueS.l0]) (ev_if_neg (by omega) (Ev.now _)), hy, fun y hm => hall y ?_⟩
        rw [List.take_of_length_le (by omega)]; exact hm
      | succ d ih =>
        intro i ys hid hy hall
        have hi : i < x.f4.length := by omega
        obtain ⟨y, hy1, hy2⟩ := toValue_tot n x.f4[i] (hkids _ (List.getElem_mem hi)) (hsk _ (List.getElem_mem hi))
        obtain ⟨y0, y1, y2, y3, y4⟩ := y
        obtain ⟨zs, hz, hz1, hz2⟩ := ih (i + 1) (ys.set i ⟨y0, y1, y2, y3, y4⟩) (by omega) (by simpa using hy) (by
          intro z hz
          rw [take_set_succ _ _ (by omega)] at hz
          rcases List.mem_append.1 hz with h | h
          · exact hall z h
          · rw [List.mem_singleton.1 h]; exact hy2)
        refine ⟨zs, Ev.step (fun k => by rw [laws_toValueS.l0]) (ev_if_pos (by omega) (ev_if_pos (by omega) ?_)), hz1, hz2⟩
        simp only [rdLV hi, wsucc hi (by omega : x.f4.length ≤ 9223372036854775807)]
        refine Ev.bind hy1 (ev_if_pos (by omega) ?_)
        simp only [Int.toNat_natCast]
        exact hz
    obtain ⟨zs, hz, hz1, hz2⟩ := loop x.f4.length 0 (List.replicate x.f4.length z30) (by omega) (by simp) (by intro y hy; simp at hy)
    have hkid : Ev (fun k => laws_toValueS.f k x.f4) zs := by
      refine Ev.step (fun k => by rw [laws_toValueS.f]) (ev_if_pos (by omega) (ev_if_pos (by simp; omega) ?_))
      simp only [Int.toNat_natCast]
      exact hz
    refine ⟨⟨x.f0, x.f1, x.f2, x.f3, zs⟩, Ev.step (fun k => by rw [laws_toValue.f]) (Ev.bind (toStringS_ev x.f3 hk.1) (Ev.bind (f := fun _ (t : List IVal) => some (x.f0, x.f1, x.f2, x.f3, t)) hkid (Ev.now _))), ?_⟩
    rw [SmI]
    exact ⟨hnum, ht, hk, by show zs.length ≤ _; omega, hz2⟩
theorem eqValue_ev : ∀ (n : Nat) (x : IVal), SmI n x → Ev (fun k => laws_eqValue.f k x.f0 x.f1 x.f2 x.f3 x.f4 x.f0 x.f1 x.f2 x.f3 x.f4) true
  | 0, x, h => by rw [SmI] at h; exact h.elim
  | n + 1, x, h => by
    rw [SmI] at h
    obtain ⟨_, _, hk, hl, hs⟩ := h
    have kid : Ev (fun k => laws_eqValueS.f k x.f4 x.f4) true := by
      refine Ev.step (fun k => by rw [laws_eqValueS.f]) (ev_if_pos (by first | trivial | rfl) ?_)
      have := loop_all (g := fun k i => laws_eqValueS.l0 k x.f4 x.f4 i) x.f4.length (fun _ => true) true (fun i hi _ r hr => ?_) (fun i hi h => by cases h) (Ev.step (fun k => by rw [laws_eqValueS.l0]) (ev_if_neg (by omega) (Ev.now _)))
      · rw [allN_true.2 (fun _ _ => rfl)] at this; exact this
      · refine Ev.step (fun k => by rw [laws_eqValueS.l0]) ?_
        simp only [wsucc hi (by omega : x.f4.length ≤ 9223372036854775807)]
        refine ev_if_pos (by omega) (ev_if_pos (by omega) (ev_if_pos (by omega) ?_))
        have e := eqValue_ev n x.f4[i] (hs _ (List.getElem_mem hi))
        rw [rdIV hi]
        exact Ev.bind e (ev_if_pos (by first | trivial | rfl) hr)
    refine Ev.step (fun k => by rw [laws_eqValue.f]) (ev_if_pos rfl (ev_if_pos rfl (ev_if_pos rfl (Ev.bind (eqStringS_ev _ (by have := hk.1; omega)) ?_))))
    exact ev_if_pos rfl (Ev.bind kid (ev_if_pos rfl (Ev.now _)))
end Go.Proofs.Ytchhognpijobcaa.G
