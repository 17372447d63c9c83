import Derived.Test.YtchhognpijobcaaDoorMFnExactValueTextCard5
import Derived.Test.YtchhognpijobcaaDoorMFnExactValueTextCard6
import Derived.Test.YtchhognpijobcaaDoorMFnExactValueTextCard7
import Derived.Test.YtchhognpijobcaaDoorMFnExactValueTextCard8
import Derived.Test.YtchhognpijobcaaDoorMFnExactValueTextCard1
/- PValueOk -/
/-
  Values that are right, and their size; the laws of ValueOk and SizeOf.
-/
namespace Go.Proofs.YtchhognpijobcaaDoor.G
open Go.RowKit Go.Proofs.YtchhognpijobcaaDoorW.PrintWords Go.Proofs.YtchhognpijobcaaDoorW.PrintLast Go.Proofs.YtchhognpijobcaaDoorW.PrintMore
set_option linter.unusedVariables false
set_option linter.unusedSimpArgs false
def emp (s : ByteArray) : Bool := decide (s.toList = [])
def textB (s : ByteArray) : Bool := allN s.size (fun i => inB (bt s i) 32 126) && decide ((s.size : Int) ≤ 100)
theorem wbt (s : ByteArray) (i : Int) : wrap64 (bt s i) = bt s i := w64 (by have := bt_lo s i; omega) (by have := bt_hi s i; omega)
theorem l4Text_ev (s : ByteArray) (h : s.size ≤ 9223372036854775807) : Ev (fun k => spec_l4Text.f k s) (textB s) := by
  unfold spec_l4Text.f textB
  refine loop_all (g := fun k i => spec_l4Text.l0 k s i) s.size _ _ ?_ ?_ ?_
  · intro i hi hok r hr
    refine Ev.step (fun k => by rw [spec_l4Text.l0]) ?_
    simp only [wsucc hi h, wbt, l1In_f, Option.bind_some]
    exact ev_if_pos (by omega) (ev_if_pos (by omega) (ev_if_pos hok hr))
  · intro i hi hok
    refine Ev.step (fun k => by rw [spec_l4Text.l0]) ?_
    simp only [wbt, l1In_f, Option.bind_some]
    exact ev_if_pos (by omega) (ev_if_pos (by omega) (ev_if_neg (by rw [hok]; exact Bool.false_ne_true) (Ev.now _)))
  · exact Ev.step (fun k => by rw [spec_l4Text.l0]) (ev_if_neg (by omega) (Ev.now _))
theorem l4Keys_ev (x : IVal) (h : wfStrs x.f3) : Ev (fun k => spec_l4Keys.f k x.f0 x.f1 x.f2 x.f3 x.f4) (namsB x.f3 && ((x.f3.length : Int) == (x.f4.length : Int))) := by
  unfold spec_l4Keys.f namsB
  refine loop_all (g := fun k i => spec_l4Keys.l0 k i x.f0 x.f1 x.f2 x.f3 x.f4) x.f3.length _ _ ?_ ?_ ?_
  · intro i hi hok r hr
    refine Ev.step (fun k => by rw [spec_l4Keys.l0]) ?_
    simp only [wsucc hi h.1]
    refine ev_if_pos (by omega) (ev_if_pos (by omega) (Ev.bind (specNameOk_ev _ (wfStrs_at h hi)) (ev_if_pos (namOk_name hok) (ev_if (fun c => ?_) (fun c => hr)))))
    simp only [wpred (by omega : 0 < i) hi h.1]
    exact ev_if_pos (by omega) (ev_if_pos (by omega) (ev_if_pos (namOk_less hok (by omega)) hr))
  · intro i hi hok
    refine Ev.step (fun k => by rw [spec_l4Keys.l0]) ?_
    refine ev_if_pos (by omega) (ev_if_pos (by omega) (Ev.bind (specNameOk_ev _ (wfStrs_at h hi)) (ev_if (fun c0 => ?_) (fun _ => Ev.now _))))
    obtain ⟨h0, hl⟩ := namOk_false hok c0
    simp only [wpred h0 hi h.1]
    exact ev_if_pos (by omega) (ev_if_pos (by omega) (ev_if_pos (by omega) (ev_if_neg (by rw [hl]; simp) (Ev.now _))))
  · exact Ev.step (fun k => by rw [spec_l4Keys.l0]) (ev_if_neg (by omega) (Ev.now _))
/-- A shape that is right, by kinds. -/
def shB (x : IVal) : Bool :=
  if x.f0 = 1 then textB x.f1 && (x.f2 == 0 && ((x.f3.length : Int) == 0 && (x.f4.length : Int) == 0))
  else if x.f0 = 2 then emp x.f1 && ((x.f3.length : Int) == 0 && (x.f4.length : Int) == 0)
  else if x.f0 = 3 then emp x.f1 && (inB x.f2 0 1 && ((x.f3.length : Int) == 0 && (x.f4.length : Int) == 0))
  else if x.f0 = 4 then emp x.f1 && (x.f2 == 0 && (x.f3.length : Int) == 0)
  else if x.f0 = 5 then emp x.f1 && (x.f2 == 0 && (namsB x.f3 && (x.f3.length : Int) == (x.f4.length : Int)))
  else false
theorem implShapeOk_ev (x : IVal) (h1 : x.f1.size ≤ 9223372036854775807) (h3 : wfStrs x.f3) :
    Ev (fun k => impl_shapeOk.f k x.f0 x.f1 x.f2 x.f3 x.f4) (shB x && decide (x.f0 ≠ 5 ∨ (x.f3.length : Int) ≤ 300)) := by
  unfold impl_shapeOk.f shB
  by_cases c1 : x.f0 = 1
  · rw [if_pos c1, decide_eq_true (by omega : x.f0 ≠ 5 ∨ (x.f3.length : Int) ≤ 300), Bool.and_true, textB, Bool.and_assoc]
    refine ev_if_pos c1 ?_
    refine loop_all (g := fun k i => impl_shapeOk.l0 k (x.f2 == 0) ((x.f3.length : Int) == 0) ((x.f4.length : Int) == 0) x.f1.size i x.f0 x.f1 x.f2 x.f3 x.f4) x.f1.size _ _ ?_ ?_ ?_
    · intro i hi hok r hr
      refine Ev.step (fun k => by rw [impl_shapeOk.l0]) ?_
      simp only [wsucc hi h1, wbt, within_f, Option.bind_some]
      exact ev_if_pos (by omega) (ev_if_pos (by omega) (ev_if_pos (by omega) (ev_if_pos hok hr)))
    · intro i hi hok
      refine Ev.step (fun k => by rw [impl_shapeOk.l0]) ?_
      simp only [wbt, within_f, Option.bind_some]
      exact ev_if_pos (by omega) (ev_if_pos (by omega) (ev_if_pos (by omega) (ev_if_neg (by rw [hok]; exact Bool.false_ne_true) (Ev.now _))))
    · refine Ev.step (fun k => by rw [impl_shapeOk.l0]) (ev_if_neg (by omega) (ev_now ?_))
      generalize (x.f3.length : Int) = n3
      generalize (x.f4.length : Int) = n4
      cases (x.f2 == 0) <;> cases (n3 == 0) <;> by_cases c : (x.f1.size : Int) ≤ 100 <;> simp [c]
  · by_cases c2 : x.f0 = 2
    · rw [if_neg c1, if_pos c2, decide_eq_true (by omega : x.f0 ≠ 5 ∨ (x.f3.length : Int) ≤ 300), Bool.and_true]
      refine ev_if_neg c1 (ev_if_pos c2 (ev_now ?_))
      unfold emp
      generalize (x.f3.length : Int) = n3
      generalize (x.f4.length : Int) = n4
      by_cases d1 : x.f1.toList = [] <;> by_cases d2 : n3 = 0 <;> simp [d1, d2]
    · by_cases c3 : x.f0 = 3
      · rw [if_neg c1, if_neg c2, if_pos c3, decide_eq_true (by omega : x.f0 ≠ 5 ∨ (x.f3.length : Int) ≤ 300), Bool.and_true]
        simp only [within_f, Option.bind_some]
        refine ev_if_neg c1 (ev_if_neg c2 (ev_if_pos c3 (ev_now ?_)))
        unfold emp
        generalize (x.f3.length : Int) = n3
        generalize (x.f4.length : Int) = n4
        by_cases d1 : x.f1.toList = [] <;> by_cases d2 : n3 = 0 <;> cases inB x.f2 0 1 <;> simp [d1, d2]
      · by_cases c4 : x.f0 = 4
        · rw [if_neg c1, if_neg c2, if_neg c3, if_pos c4, decide_eq_true (by omega : x.f0 ≠ 5 ∨ (x.f3.length : Int) ≤ 300), Bool.and_true]
          refine ev_if_neg c1 (ev_if_neg c2 (ev_if_neg c3 (ev_if_pos c4 (ev_now ?_))))
          unfold emp
          generalize (x.f3.length : Int) = n3
          generalize (x.f4.length : Int) = n4
          by_cases d1 : x.f1.toList = [] <;> by_cases d2 : n3 = 0 <;> by_cases d3 : x.f2 = 0 <;> simp [d1, d2, d3]
        · by_cases c5 : x.f0 = 5
          · rw [if_neg c1, if_neg c2, if_neg c3, if_neg c4, if_pos c5]
            refine ev_if_neg c1 (ev_if_neg c2 (ev_if_neg c3 (ev_if_neg c4 (ev_if_pos c5 (Ev.bind (namesOk_ev x.f3 300 h3) (ev_now ?_))))))
            have e : decide (x.f0 ≠ 5 ∨ (x.f3.length : Int) ≤ 300) = decide ((x.f3.length : Int) ≤ 300) := by rw [decide_eq_decide]; omega
            rw [e]
            clear e
            unfold emp
            generalize (x.f3.length : Int) = n3
            generalize (x.f4.length : Int) = n4
            by_cases d1 : x.f1.toList = [] <;> by_cases d2 : n3 = n4 <;> by_cases d3 : x.f2 = 0 <;> cases namsB x.f3 <;> by_cases d4 : n3 ≤ 300 <;> (try subst d2) <;> simp [*]
          · rw [if_neg c1, if_neg c2, if_neg c3, if_neg c4, if_neg c5, Bool.false_and]
            exact ev_if_neg c1 (ev_if_neg c2 (ev_if_neg c3 (ev_if_neg c4 (ev_if_neg c5 (Ev.now _)))))
/-- Sizes of kids, added up; 0 where one is not right, or it is too much. -/
def sumL (m : IVal → Nat) : Nat → List IVal → Nat
  | n, [] => n
  | n, y :: ys => if m y = 0 ∨ n + m y > 300 then 0 else sumL m (n + m y) ys
theorem sumL_bad {m : IVal → Nat} {n : Nat} {y : IVal} {ys : List IVal} (h : m y = 0 ∨ n + m y > 300) : sumL m n (y :: ys) = 0 := by rw [sumL, if_pos h]
theorem sumL_good {m : IVal → Nat} {n : Nat} {y : IVal} {ys : List IVal} (h : ¬ (m y = 0 ∨ n + m y > 300)) : sumL m n (y :: ys) = sumL m (n + m y) ys := by rw [sumL, if_neg h]
def lookN : Nat → IVal → Nat
  | 0, _ => 0
  | r + 1, x => if shB x = true then sumL (lookN r) 1 x.f4 else 0
theorem sumL_bounds (m : IVal → Nat) : ∀ (ys : List IVal) (n : Nat), n ≤ 300 → sumL m n ys = 0 ∨ (n + ys.length ≤ sumL m n ys ∧ sumL m n ys ≤ 300)
  | [], n, h => .inr ⟨by simp [sumL], by simpa [sumL] using h⟩
  | y :: ys, n, h => by
    rw [sumL]
    by_cases c : m y = 0 ∨ n + m y > 300
    · rw [if_pos c]; exact .inl rfl
    · rw [if_neg c]
      rcases sumL_bounds m ys (n + m y) (by omega) with h1 | ⟨h1, h2⟩
      · exact .inl h1
      · refine .inr ⟨?_, h2⟩
        rw [List.length_cons]; omega
theorem lookN_le (r : Nat) (x : IVal) : lookN r x ≤ 300 := by
  cases r with
  | zero => simp [lookN]
  | succ r =>
    rw [lookN]
    split
    · rcases sumL_bounds (lookN r) x.f4 1 (by omega) with h | h <;> omega
    · omega
theorem l4Look_j1 (x : IVal) (n : Nat) (h1 : x.f1.size ≤ 9223372036854775807) (h3 : wfStrs x.f3) (b : Bool) (hb : b = ((x.f3.length : Int) == 0 && (x.f4.length : Int) == 0)) :
    Ev (fun k => spec_l4Look.j1 k n b x.f0 x.f1 x.f2 x.f3 x.f4) (if shB x = true then (n : Int) else 0) := by
  subst hb
  refine Ev.step (fun k => by rw [spec_l4Look.j1]) ?_
  unfold shB
  by_cases c1 : x.f0 = 1
  · refine ev_if_pos c1 ?_
    rw [if_pos c1]
    cases hb : ((x.f3.length : Int) == 0 && (x.f4.length : Int) == 0) with
    | false => exact ev_if_neg Bool.false_ne_true (ev_some (by simp))
    | true =>
      refine ev_if_pos rfl ?_
      by_cases c : x.f2 = 0
      · refine ev_if_pos c (Ev.bind (l4Text_ev _ h1) (ev_now ?_))
        rw [c]; cases textB x.f1 <;> simp
      · refine ev_if_neg c (ev_some ?_)
        simp [c]
  · by_cases c2 : x.f0 = 2
    · refine ev_if_neg c1 (ev_if_pos c2 (ev_now ?_))
      rw [if_neg c1, if_pos c2]
      unfold emp
      generalize (x.f3.length : Int) = n3
      generalize (x.f4.length : Int) = n4
      cases (n3 == 0 && n4 == 0) <;> by_cases d : x.f1.toList = [] <;> simp [d]
    · by_cases c3 : x.f0 = 3
      · refine ev_if_neg c1 (ev_if_neg c2 (ev_if_pos c3 (ev_now ?_)))
        simp only [l1In_f, Option.bind_some]
        rw [if_neg c1, if_neg c2, if_pos c3]
        unfold emp
        generalize (x.f3.length : Int) = n3
        generalize (x.f4.length : Int) = n4
        cases (n3 == 0 && n4 == 0) <;> by_cases d : x.f1.toList = [] <;> cases inB x.f2 0 1 <;> simp [d]
      · by_cases c4 : x.f0 = 4
        · refine ev_if_neg c1 (ev_if_neg c2 (ev_if_neg c3 (ev_if_pos c4 (ev_now ?_))))
          rw [if_neg c1, if_neg c2, if_neg c3, if_pos c4]
          unfold emp
          generalize (x.f3.length : Int) = n3
          generalize (x.f4.length : Int) = n4
          by_cases d : x.f1.toList = [] <;> by_cases d2 : n3 = 0 <;> by_cases d3 : x.f2 = 0 <;> simp [d, d2, d3]
        · by_cases c5 : x.f0 = 5
          · refine ev_if_neg c1 (ev_if_neg c2 (ev_if_neg c3 (ev_if_neg c4 (ev_if_pos c5 (Ev.bind (l4Keys_ev x h3) (ev_now ?_))))))
            rw [if_neg c1, if_neg c2, if_neg c3, if_neg c4, if_pos c5]
            unfold emp
            generalize (x.f3.length : Int) = n3
            generalize (x.f4.length : Int) = n4
            cases (namsB x.f3 && (n3 == n4)) <;> by_cases d : x.f1.toList = [] <;> by_cases d3 : x.f2 = 0 <;> simp [d, d3]
          · refine ev_if_neg c1 (ev_if_neg c2 (ev_if_neg c3 (ev_if_neg c4 (ev_if_neg c5 (ev_some ?_)))))
            rw [if_neg c1, if_neg c2, if_neg c3, if_neg c4, if_neg c5]; simp
theorem smI_parts {n : Nat} {x : IVal} (h : SmI n x) : ∃ m, n = m + 1 ∧ x.f1.size ≤ 1048576 ∧ wfStrs x.f3 ∧ x.f4.length ≤ 1048576 ∧ ∀ y ∈ x.f4, SmI m y := by
  cases n with
  | zero => rw [SmI] at h; exact h.elim
  | succ m => rw [SmI] at h; exact ⟨m, rfl, h.2.1, wfStrs_of h.2.2.1, h.2.2.2.1, h.2.2.2.2⟩
theorem l4Look_ev : ∀ (r : Nat) (n : Nat) (x : IVal), r ≤ 1000 → SmI n x → Ev (fun k => spec_l4Look.f k x.f0 x.f1 x.f2 x.f3 x.f4 r) ((lookN r x : Nat) : Int)
  | 0, n, x, _, h => Ev.step (fun k => by rw [spec_l4Look.f]) (ev_if_pos (by omega) (ev_some (by simp [lookN])))
  | r + 1, n, x, hr, h => by
    obtain ⟨m, rfl, h1, h3, hl, hk⟩ := smI_parts h
    have hx := h
    have loop : ∀ (d i a : Nat), i + d = x.f4.length → 1 ≤ a → a ≤ 300 → Ev (fun k => spec_l4Look.l0 k ((r + 1 : Nat) : Int) a i x.f0 x.f1 x.f2 x.f3 x.f4) (if shB x = true then ((sumL (lookN r) a (x.f4.drop i) : Nat) : Int) else 0) := by
      intro d
      induction d with
      | zero =>
        intro i a hi ha ha2
        rw [List.drop_of_length_le (by omega), sumL]
        refine Ev.step (fun k => by rw [spec_l4Look.l0]) (ev_if_neg (by omega) ?_)
        exact ev_if (fun c => l4Look_j1 x a (by omega) h3 _ (by rw [beq_iff_eq.2 c, Bool.true_and])) (fun c => l4Look_j1 x a (by omega) h3 _ (by rw [beq_eq_false_iff_ne.2 c, Bool.false_and]))
      | succ d ih =>
        intro i a hid ha ha2
        have hi : i < x.f4.length := by omega
        have hle := lookN_le r x.f4[i]
        refine Ev.step (fun k => by rw [spec_l4Look.l0]) (ev_if_pos (by omega) (ev_if_pos (by omega) ?_))
        have hw : wrap64 (((r + 1 : Nat) : Int) - 1) = (r : Int) := by rw [w64 (by omega) (by omega)]; omega
        simp only [rdIV hi, hw, wsucc hi (by omega : x.f4.length ≤ 9223372036854775807)]
        refine Ev.bind (l4Look_ev r m x.f4[i] (by omega) (hk _ (List.getElem_mem hi))) ?_
        have hw2 : wrap64 ((a : Int) + (lookN r x.f4[i] : Nat)) = ((a + lookN r x.f4[i] : Nat) : Int) := by rw [w64 (by omega) (by omega)]; omega
        rw [hw2, List.drop_eq_getElem_cons hi]
        by_cases c : lookN r x.f4[i] = 0
        · rw [sumL_bad (.inl c)]
          exact ev_if_pos (by omega) (ev_some (by simp))
        · refine ev_if_neg (by omega) ?_
          by_cases c2 : a + lookN r x.f4[i] > 300
          · rw [sumL_bad (.inr c2)]
            exact ev_if_pos (by omega) (ev_some (by simp))
          · rw [sumL_good (by omega)]
            exact ev_if_neg (by omega) (ih (i + 1) (a + lookN r x.f4[i]) (by omega) (by omega) (by omega))
    refine Ev.step (fun k => by rw [spec_l4Look.f]) (ev_if_neg (by omega) ?_)
    refine ev_rw (loop x.f4.length 0 1 (by omega) (by omega) (by omega)) ?_
    rw [List.drop_zero, lookN]
    by_cases c : shB x = true <;> simp [c]
def bigN (n : Nat) : Int := if n = 0 then 301 else n
theorem measured_ev : ∀ (r : Nat) (n : Nat) (x : IVal), r ≤ 1000 → SmI n x → Ev (fun k => impl_measured.f k x.f0 x.f1 x.f2 x.f3 x.f4 r) (bigN (lookN r x))
  | 0, n, x, _, h => Ev.step (fun k => by rw [impl_measured.f]) (ev_if_pos (by omega) (Ev.step (fun k => by rw [impl_measured.j0]) (ev_if_pos rfl (ev_some (by simp [lookN, bigN])))))
  | r + 1, n, x, hr, h => by
    obtain ⟨m, rfl, h1, h3, hl, hk⟩ := smI_parts h
    have loop : ∀ (d i a : Nat), i + d = x.f4.length → 1 ≤ a → a ≤ 300 → Ev (fun k => impl_measured.l0 k ((r + 1 : Nat) : Int) a x.f4 x.f4.length i) (bigN (sumL (lookN r) a (x.f4.drop i))) := by
      intro d
      induction d with
      | zero =>
        intro i a hi ha ha2
        rw [List.drop_of_length_le (by omega), sumL]
        exact Ev.step (fun k => by rw [impl_measured.l0]) (ev_if_neg (by omega) (ev_some (by unfold bigN; rw [if_neg (by omega)])))
      | succ d ih =>
        intro i a hid ha ha2
        have hi : i < x.f4.length := by omega
        have hle := lookN_le r x.f4[i]
        refine Ev.step (fun k => by rw [impl_measured.l0]) (ev_if_pos (by omega) (ev_if_pos (by omega) (ev_if_pos (by omega) ?_)))
        have hw : wrap64 (((r + 1 : Nat) : Int) - 1) = (r : Int) := by rw [w64 (by omega) (by omega)]; omega
        simp only [rdIV hi, hw, wsucc hi (by omega : x.f4.length ≤ 9223372036854775807)]
        refine Ev.bind (measured_ev r m x.f4[i] (by omega) (hk _ (List.getElem_mem hi))) ?_
        rw [List.drop_eq_getElem_cons hi]
        by_cases c : lookN r x.f4[i] = 0
        · rw [sumL_bad (.inl c), show bigN (lookN r x.f4[i]) = 301 from if_pos c, w64 (by omega) (by omega)]
          exact ev_if_pos (by omega) (Ev.now _)
        · have hw2 : wrap64 ((a : Int) + bigN (lookN r x.f4[i])) = ((a + lookN r x.f4[i] : Nat) : Int) := by unfold bigN; rw [if_neg c, w64 (by omega) (by omega)]; omega
          rw [hw2]
          by_cases c2 : a + lookN r x.f4[i] > 300
          · rw [sumL_bad (.inr c2)]
            exact ev_if_pos (by omega) (Ev.now _)
          · rw [sumL_good (by omega)]
            exact ev_if_neg (by omega) (ih (i + 1) (a + lookN r x.f4[i]) (by omega) (by omega) (by omega))
    refine Ev.step (fun k => by rw [impl_measured.f]) (ev_if_neg (by omega) (Ev.bind (implShapeOk_ev x (by omega) h3) ?_))
    refine Ev.step (fun k => by rw [impl_measured.j0]) ?_
    rw [lookN]
    by_cases c : shB x = true
    · rw [if_pos c, c, Bool.true_and]
      by_cases c2 : x.f0 ≠ 5 ∨ (x.f3.length : Int) ≤ 300
      · rw [decide_eq_true c2]
        refine ev_if_neg (by simp) (ev_rw (loop x.f4.length 0 1 (by omega) (by omega) (by omega)) ?_)
        rw [List.drop_zero]
      · rw [decide_eq_false c2]
        refine ev_if_pos rfl (ev_some ?_)
        have e5 : x.f0 = 5 := by omega
        have hlen : x.f3.length = x.f4.length := by
          unfold shB at c
          rw [if_neg (by omega), if_neg (by omega), if_neg (by omega), if_neg (by omega), if_pos e5] at c
          simp only [Bool.and_eq_true, beq_iff_eq] at c
          omega
        rcases sumL_bounds (lookN r) x.f4 1 (by omega) with h0 | h0
        · rw [h0]; rfl
        · omega
    · rw [if_neg c, Bool.eq_false_iff.2 c, Bool.false_and]
      exact ev_if_pos rfl (Ev.now _)
end Go.Proofs.YtchhognpijobcaaDoor.G

/- G27 -/
-- Laid by wip/g/gprint.py out of the translation, by the kit's print program. Lean checks it.
namespace Go.Proofs.YtchhognpijobcaaDoor.G
open Go.RowKit Go.Proofs.YtchhognpijobcaaDoorW.PrintWords Go.Proofs.YtchhognpijobcaaDoorW.PrintLast Go.Proofs.YtchhognpijobcaaDoorW.PrintMore
attribute [local go_sem] max2_int min2_int max_two min_two max_three min_three max_four min_four   -- for this text's walks alone
set_option linter.unusedVariables false
set_option linter.unusedSimpArgs false

--IMPORT Derived.Test.YtchhognpijobcaaDoorGKShape
/-! ### impl_written: function 27 -/
mutual
def impl_written.l0 : Nat → List ByteArray → List (S33) → Int → Int → Int → ByteArray → Int → List ByteArray → List (S33) → Option (ByteArray)
  | 0, _, _, _, _, _, _, _, _, _ => none
  | k + 1, x3, x27, x28, x29, x233000, x233001, x233002, x233003, x233004 => if x29 < x28 then (if 0 ≤ x29 then (if x29 < (x27.length : Int) then ((impl_written.f k ((rd_T33 x27 x29).f0) ((rd_T33 x27 x29).f1) ((rd_T33 x27 x29).f2) ((rd_T33 x27 x29).f3) ((rd_T33 x27 x29).f4)).bind fun t240 => (if x233000 = 5 then (if x29 < (x233003.length : Int) then (if (rdOf ByteArray.empty x233003 x29).size + 1 ≤ 9223372036854775807 then (if ((rdOf ByteArray.empty x233003 x29) ++ (⟨#[58]⟩ : ByteArray)).size + t240.size ≤ 9223372036854775807 then (if x3.length < 8796093022208 then (impl_written.l0 k (x3 ++ [((rdOf ByteArray.empty x233003 x29) ++ (⟨#[58]⟩ : ByteArray)) ++ t240]) x27 x28 (wrap64 (x29 + 1)) x233000 x233001 x233002 x233003 x233004) else (none)) else (none)) else (none)) else (none)) else (if x3.length < 8796093022208 then (impl_written.l0 k (x3 ++ [t240]) x27 x28 (wrap64 (x29 + 1)) x233000 x233001 x233002 x233003 x233004) else (none)))) else (none)) else (none)) else ((strings_Join.f x3 (⟨#[44]⟩ : ByteArray)).bind fun t248 => (if x233000 = 5 then (if 1 + t248.size ≤ 9223372036854775807 then (if ((⟨#[123]⟩ : ByteArray) ++ t248).size + 1 ≤ 9223372036854775807 then (some (((⟨#[123]⟩ : ByteArray) ++ t248) ++ (⟨#[125]⟩ : ByteArray))) else (none)) else (none)) else (if 1 + t248.size ≤ 9223372036854775807 then (if ((⟨#[91]⟩ : ByteArray) ++ t248).size + 1 ≤ 9223372036854775807 then (some (((⟨#[91]⟩ : ByteArray) ++ t248) ++ (⟨#[93]⟩ : ByteArray))) else (none)) else (none))))
def impl_written.f : Nat → Int → ByteArray → Int → List ByteArray → List (S33) → Option (ByteArray)
  | 0, _, _, _, _, _ => none
  | k + 1, a0_0, a0_1, a0_2, l0_3, l0_4 => if a0_0 = 1 then ((impl_quoted.f a0_1).bind fun t233 => (some t233)) else (if a0_0 = 2 then ((impl_decimal.f a0_2).bind fun t234 => (some t234)) else (if a0_0 = 3 then (if a0_2 = 1 then (some (⟨#[116, 114, 117, 101]⟩ : ByteArray)) else (some (⟨#[102, 97, 108, 115, 101]⟩ : ByteArray))) else (impl_written.l0 k (([] : List ByteArray)) l0_4 (l0_4.length : Int) 0 a0_0 a0_1 a0_2 l0_3 l0_4)))
end
set_option maxHeartbeats 8000000 in
set_option maxRecDepth 100000 in
theorem impl_written.calls (k : Nat) : ∀ (a0_0 : Int) (a0_1 : ByteArray) (a0_2 : Int) (A0_3 : Option Addr) (c0_3 : Nat) (l0_3 : List ByteArray) (A0_4 : Option Addr) (c0_4 : Nat) (l0_4 : List (S33)) (r : ByteArray) (w : World) (hr0_3 : Kd.C Kd.string w A0_3 l0_3.length l0_3) (hc0_3 : l0_3.length ≤ c0_3) (hr0_4 : Kd.C k33 w A0_4 l0_4.length l0_4) (hc0_4 : l0_4.length ≤ c0_4) (hsh_ : SH w) (h : impl_written.f k a0_0 a0_1 a0_2 l0_3 l0_4 = some r),
    Calls Tryd.prog 27 #[.agg #[.int .i64 a0_0, .string a0_1, .int .i64 a0_2, .slice A0_3 l0_3.length c0_3, .slice A0_4 l0_4.length c0_4]] w fun e w' => e = .returned (.string r) ∧ Below w.heap.size w w' := by
  induction k using Nat.strongRecOn with
  | _ k ih =>
  intro a0_0 a0_1 a0_2 A0_3 c0_3 l0_3 A0_4 c0_4 l0_4 r w hr0_3 hc0_3 hr0_4 hc0_4 hsh_ h
  cases k with
  | zero => exact absurd h (by simp [impl_written.f])
  | succ k =>
  simp only [impl_written.f] at h
  have hu33 := Tryd.underlying33
  have HR0_3 := Aside0.mk hr0_3
  have HC0_3 := Aside0.mk hc0_3
  clear hr0_3 hc0_3
  have HR0_4 := Aside0.mk hr0_4
  have HC0_4 := Aside0.mk hc0_4
  clear hr0_4 hc0_4
  have HB := Aside0.mk (Below.refl w.heap.size w)
  have H : (if a0_0 = 1 then ((impl_quoted.f a0_1).bind fun t233 => (some t233)) else (if a0_0 = 2 then ((impl_decimal.f a0_2).bind fun t234 => (some t234)) else (if a0_0 = 3 then (if a0_2 = 1 then (some (⟨#[116, 114, 117, 101]⟩ : ByteArray)) else (some (⟨#[102, 97, 108, 115, 101]⟩ : ByteArray))) else (impl_written.l0 k (([] : List ByteArray)) l0_4 (l0_4.length : Int) 0 a0_0 a0_1 a0_2 l0_3 l0_4)))) = some r := h
  clear h
  by_cases c2 : a0_0 = 1
  · rw [if_pos c2] at H
    have c2b0 : (a0_0 == 1) = true := beq_iff_eq.mpr c2
    have c2b1 : (a0_0 != 1) = false := bne_eq_false_iff_eq.mpr c2
    clear c2
    replace H := Option.bind_eq_some_iff.mp H
    obtain ⟨t233, A30, H⟩ := H
    replace H : (some t233) = some r := H
    have A3 := Aside0.mk A30
    clear A30
    obtain rfl := Option.some.inj H
    go_enter Tryd.func27, Tryd.ntmps27
    go_wp2_with (first | ((with_reducible refine gate_dst (N := 1) rfl ?_); refine box_event ?hg (N := 1) ?hd (cs := #[.int .i64 a0_0, .string a0_1, .int .i64 a0_2, .slice A0_3 l0_3.length c0_3, .slice A0_4 l0_4.length c0_4]) (t := 33) ?hr ?_; (case hd => rfl); (case hg => rfl); (case hr => first | (go_simp; done) | (go_simp; rfl)); intro gb232 hg w4 hbox hb; have n0_ := Aside0.mk (below_step (by repeat (first | (with_reducible first | exact HB.out | apply below_alloc | apply pw_below_drewN | apply below_drew1) | exact HB.out)) hb); have n1_ := Aside0.mk (hbox); have n2_ := Aside0.mk ((by rw [hg]; exact (below_size (by repeat (first | (with_reducible first | exact HB.out | apply below_alloc | apply pw_below_drewN | apply below_drew1) | exact HB.out))) : w.heap.size ≤ gb232)); have n3_ := Aside0.mk ((by rw [hg]; exact (below_size (by repeat (first | (with_reducible first | exact HB.out | apply below_alloc | apply pw_below_drewN | apply below_drew1) | exact HB.out))) : w.heap.size ≤ gb232)); clear HB; have HB := n0_; have BK232 := n1_; have GW232 := n2_; have GE232 := n3_; clear n0_ n1_ n2_ n3_; clear hb hbox hg; have hcz5_0 : w4.cell? ⟨gb232, 0, none⟩ = some (.int .i64 a0_0) := (blk_cell BK232.out 0).trans rfl; have hcz5_1 : w4.cell? ⟨gb232, 1, none⟩ = some (.string a0_1) := (blk_cell BK232.out 1).trans rfl; have hcz5_2 : w4.cell? ⟨gb232, 2, none⟩ = some (.int .i64 a0_2) := (blk_cell BK232.out 2).trans rfl; have hcz5_3 : w4.cell? ⟨gb232, 3, none⟩ = some (.slice A0_3 l0_3.length c0_3) := (blk_cell BK232.out 3).trans rfl; have hcz5_4 : w4.cell? ⟨gb232, 4, none⟩ = some (.slice A0_4 l0_4.length c0_4) := (blk_cell BK232.out 4).trans rfl; have hfz5_0 := blk_frozen BK232.out 0; have hfz5_1 := blk_frozen BK232.out 1; have hfz5_2 := blk_frozen BK232.out 2; have hfz5_3 := blk_frozen BK232.out 3; have hfz5_4 := blk_frozen BK232.out 4) | ((with_reducible refine gate_callee (f := 44) rfl ?_); refine goesL_ (some 14) rfl rfl Tryd.func44 (by kernel_rfl) rfl #[.string a0_1] rfl (by (try simp only [List.map_toArray, List.map_cons, List.map_nil]); first | done | rfl | (simp only [List.length_drop, List.length_take]; rfl)) ?_; (with_reducible refine (impl_quoted.calls a0_1 t233 _ (SH.below hsh_ (by repeat (first | (with_reducible first | exact HB.out | apply below_alloc | apply pw_below_drewN | apply below_drew1 | refine below_set ?_ GE232.out | refine below_set ?_ GE239.out) | exact HB.out))) A3.out).mono ?_); rintro e w6 ⟨rfl, hb⟩; refine ⟨_, rfl, ?_⟩; have n0_ := Aside0.mk (blk_below (g := gb232) (o := .cells #[.int .i64 a0_0, .string a0_1, .int .i64 a0_2, .slice A0_3 l0_3.length c0_3, .slice A0_4 l0_4.length c0_4] 33 (0, 0)) (by (with_reducible repeat (first | refine blk_drewN ?_ _ | refine blk_drew ?_ | refine blk_alloc ?_ _)); exact BK232.out) hb); have n1_ := Aside0.mk (below_step (by repeat (first | (with_reducible first | exact HB.out | apply below_alloc | apply pw_below_drewN | apply below_drew1 | refine below_set ?_ GE232.out) | exact HB.out)) hb); clear BK232; clear HB; have BK232 := n0_; have HB := n1_; clear n0_ n1_; (try clear hb); (try clear hb2); (try clear hk); (try clear hi)))
    go_ret
    exact ⟨by first | rfl | (simp [errW_none, errW_some] <;> rfl) | (simp [*, errW_none, errW_some] <;> rfl), by repeat (first | (with_reducible first | exact HB.out | apply below_alloc | apply pw_below_drewN | apply below_drew1 | refine below_set ?_ GE232.out) | exact HB.out)⟩
  · rw [if_neg c2] at H
    have c2b0 : (a0_0 == 1) = false := beq_eq_false_iff_ne.mpr c2
    have c2b1 : (a0_0 != 1) = true := bne_iff_ne.mpr c2
    by_cases c7 : a0_0 = 2
    · rw [if_pos c7] at H
      have c7b0 : (a0_0 == 2) = true := beq_iff_eq.mpr c7
      have c7b1 : (a0_0 != 2) = false := bne_eq_false_iff_eq.mpr c7
      clear c7
      replace H := Option.bind_eq_some_iff.mp H
      obtain ⟨t234, A80, H⟩ := H
      replace H : (some t234) = some r := H
      have A8 := Aside0.mk A80
      clear A80
      obtain rfl := Option.some.inj H
      go_enter Tryd.func27, Tryd.ntmps27
      go_wp2_with (first | ((with_reducible refine gate_dst (N := 1) rfl ?_); refine box_event ?hg (N := 1) ?hd (cs := #[.int .i64 a0_0, .string a0_1, .int .i64 a0_2, .slice A0_3 l0_3.length c0_3, .slice A0_4 l0_4.length c0_4]) (t := 33) ?hr ?_; (case hd => rfl); (case hg => rfl); (case hr => first | (go_simp; done) | (go_simp; rfl)); intro gb232 hg w9 hbox hb; have n0_ := Aside0.mk (below_step (by repeat (first | (with_reducible first | exact HB.out | apply below_alloc | apply pw_below_drewN | apply below_drew1) | exact HB.out)) hb); have n1_ := Aside0.mk (hbox); have n2_ := Aside0.mk ((by rw [hg]; exact (below_size (by repeat (first | (with_reducible first | exact HB.out | apply below_alloc | apply pw_below_drewN | apply below_drew1) | exact HB.out))) : w.heap.size ≤ gb232)); have n3_ := Aside0.mk ((by rw [hg]; exact (below_size (by repeat (first | (with_reducible first | exact HB.out | apply below_alloc | apply pw_below_drewN | apply below_drew1) | exact HB.out))) : w.heap.size ≤ gb232)); clear HB; have HB := n0_; have BK232 := n1_; have GW232 := n2_; have GE232 := n3_; clear n0_ n1_ n2_ n3_; clear hb hbox hg; have hcz10_0 : w9.cell? ⟨gb232, 0, none⟩ = some (.int .i64 a0_0) := (blk_cell BK232.out 0).trans rfl; have hcz10_1 : w9.cell? ⟨gb232, 1, none⟩ = some (.string a0_1) := (blk_cell BK232.out 1).trans rfl; have hcz10_2 : w9.cell? ⟨gb232, 2, none⟩ = some (.int .i64 a0_2) := (blk_cell BK232.out 2).trans rfl; have hcz10_3 : w9.cell? ⟨gb232, 3, none⟩ = some (.slice A0_3 l0_3.length c0_3) := (blk_cell BK232.out 3).trans rfl; have hcz10_4 : w9.cell? ⟨gb232, 4, none⟩ = some (.slice A0_4 l0_4.length c0_4) := (blk_cell BK232.out 4).trans rfl; have hfz10_0 := blk_frozen BK232.out 0; have hfz10_1 := blk_frozen BK232.out 1; have hfz10_2 := blk_frozen BK232.out 2; have hfz10_3 := blk_frozen BK232.out 3; have hfz10_4 := blk_frozen BK232.out 4) | ((with_reducible refine gate_callee (f := 35) rfl ?_); refine goesL_ (some 19) rfl rfl Tryd.func35 (by kernel_rfl) rfl #[.int .i64 a0_2] rfl (by (try simp only [List.map_toArray, List.map_cons, List.map_nil]); first | done | rfl | (simp only [List.length_drop, List.length_take]; rfl)) ?_; (with_reducible refine (impl_decimal.calls a0_2 t234 _ A8.out).mono ?_); rintro e w' ⟨rfl, ⟨nd, rfl⟩⟩; refine ⟨_, rfl, ?_⟩))
      go_ret
      exact ⟨by first | rfl | (simp [errW_none, errW_some] <;> rfl) | (simp [*, errW_none, errW_some] <;> rfl), by repeat (first | (with_reducible first | exact HB.out | apply below_alloc | apply pw_below_drewN | apply below_drew1 | refine below_set ?_ GE232.out) | exact HB.out)⟩
    · rw [if_neg c7] at H
      have c7b0 : (a0_0 == 2) = false := beq_eq_false_iff_ne.mpr c7
      have c7b1 : (a0_0 != 2) = true := bne_iff_ne.mpr c7
      by_cases c11 : a0_0 = 3
      · rw [if_pos c11] at H
        have c11b0 : (a0_0 == 3) = true := beq_iff_eq.mpr c11
        have c11b1 : (a0_0 != 3) = false := bne_eq_false_iff_eq.mpr c11
        clear c11
        by_cases c12 : a0_2 = 1
        · rw [if_pos c12] at H
          have c12b0 : (a0_2 == 1) = true := beq_iff_eq.mpr c12
          have c12b1 : (a0_2 != 1) = false := bne_eq_false_iff_eq.mpr c12
          clear c12
          obtain rfl := Option.some.inj H
          go_enter Tryd.func27, Tryd.ntmps27
          go_wp2_with (first | ((with_reducible refine gate_dst (N := 1) rfl ?_); refine box_event ?hg (N := 1) ?hd (cs := #[.int .i64 a0_0, .string a0_1, .int .i64 a0_2, .slice A0_3 l0_3.length c0_3, .slice A0_4 l0_4.length c0_4]) (t := 33) ?hr ?_; (case hd => rfl); (case hg => rfl); (case hr => first | (go_simp; done) | (go_simp; rfl)); intro gb232 hg w13 hbox hb; have n0_ := Aside0.mk (below_step (by repeat (first | (with_reducible first | exact HB.out | apply below_alloc | apply pw_below_drewN | apply below_drew1) | exact HB.out)) hb); have n1_ := Aside0.mk (hbox); have n2_ := Aside0.mk ((by rw [hg]; exact (below_size (by repeat (first | (with_reducible first | exact HB.out | apply below_alloc | apply pw_below_drewN | apply below_drew1) | exact HB.out))) : w.heap.size ≤ gb232)); have n3_ := Aside0.mk ((by rw [hg]; exact (below_size (by repeat (first | (with_reducible first | exact HB.out | apply below_alloc | apply pw_below_drewN | apply below_drew1) | exact HB.out))) : w.heap.size ≤ gb232)); clear HB; have HB := n0_; have BK232 := n1_; have GW232 := n2_; have GE232 := n3_; clear n0_ n1_ n2_ n3_; clear hb hbox hg; have hcz14_0 : w13.cell? ⟨gb232, 0, none⟩ = some (.int .i64 a0_0) := (blk_cell BK232.out 0).trans rfl; have hcz14_1 : w13.cell? ⟨gb232, 1, none⟩ = some (.string a0_1) := (blk_cell BK232.out 1).trans rfl; have hcz14_2 : w13.cell? ⟨gb232, 2, none⟩ = some (.int .i64 a0_2) := (blk_cell BK232.out 2).trans rfl; have hcz14_3 : w13.cell? ⟨gb232, 3, none⟩ = some (.slice A0_3 l0_3.length c0_3) := (blk_cell BK232.out 3).trans rfl; have hcz14_4 : w13.cell? ⟨gb232, 4, none⟩ = some (.slice A0_4 l0_4.length c0_4) := (blk_cell BK232.out 4).trans rfl; have hfz14_0 := blk_frozen BK232.out 0; have hfz14_1 := blk_frozen BK232.out 1; have hfz14_2 := blk_frozen BK232.out 2; have hfz14_3 := blk_frozen BK232.out 3; have hfz14_4 := blk_frozen BK232.out 4))
          go_ret
          exact ⟨by first | rfl | (simp [errW_none, errW_some] <;> rfl) | (simp [*, errW_none, errW_some] <;> rfl), by repeat (first | (with_reducible first | exact HB.out | apply below_alloc | apply pw_below_drewN | apply below_drew1 | refine below_set ?_ GE232.out) | exact HB.out)⟩
        · rw [if_neg c12] at H
          have c12b0 : (a0_2 == 1) = false := beq_eq_false_iff_ne.mpr c12
          have c12b1 : (a0_2 != 1) = true := bne_iff_ne.mpr c12
          obtain rfl := Option.some.inj H
          go_enter Tryd.func27, Tryd.ntmps27
          go_wp2_with (first | ((with_reducible refine gate_dst (N := 1) rfl ?_); refine box_event ?hg (N := 1) ?hd (cs := #[.int .i64 a0_0, .string a0_1, .int .i64 a0_2, .slice A0_3 l0_3.length c0_3, .slice A0_4 l0_4.length c0_4]) (t := 33) ?hr ?_; (case hd => rfl); (case hg => rfl); (case hr => first | (go_simp; done) | (go_simp; rfl)); intro gb232 hg w15 hbox hb; have n0_ := Aside0.mk (below_step (by repeat (first | (with_reducible first | exact HB.out | apply below_alloc | apply pw_below_drewN | apply below_drew1) | exact HB.out)) hb); have n1_ := Aside0.mk (hbox); have n2_ := Aside0.mk ((by rw [hg]; exact (below_size (by repeat (first | (with_reducible first | exact HB.out | apply below_alloc | apply pw_below_drewN | apply below_drew1) | exact HB.out))) : w.heap.size ≤ gb232)); have n3_ := Aside0.mk ((by rw [hg]; exact (below_size (by repeat (first | (with_reducible first | exact HB.out | apply below_alloc | apply pw_below_drewN | apply below_drew1) | exact HB.out))) : w.heap.size ≤ gb232)); clear HB; have HB := n0_; have BK232 := n1_; have GW232 := n2_; have GE232 := n3_; clear n0_ n1_ n2_ n3_; clear hb hbox hg; have hcz16_0 : w15.cell? ⟨gb232, 0, none⟩ = some (.int .i64 a0_0) := (blk_cell BK232.out 0).trans rfl; have hcz16_1 : w15.cell? ⟨gb232, 1, none⟩ = some (.string a0_1) := (blk_cell BK232.out 1).trans rfl; have hcz16_2 : w15.cell? ⟨gb232, 2, none⟩ = some (.int .i64 a0_2) := (blk_cell BK232.out 2).trans rfl; have hcz16_3 : w15.cell? ⟨gb232, 3, none⟩ = some (.slice A0_3 l0_3.length c0_3) := (blk_cell BK232.out 3).trans rfl; have hcz16_4 : w15.cell? ⟨gb232, 4, none⟩ = some (.slice A0_4 l0_4.length c0_4) := (blk_cell BK232.out 4).trans rfl; have hfz16_0 := blk_frozen BK232.out 0; have hfz16_1 := blk_frozen BK232.out 1; have hfz16_2 := blk_frozen BK232.out 2; have hfz16_3 := blk_frozen BK232.out 3; have hfz16_4 := blk_frozen BK232.out 4))
          go_ret
          exact ⟨by first | rfl | (simp [errW_none, errW_some] <;> rfl) | (simp [*, errW_none, errW_some] <;> rfl), by repeat (first | (with_reducible first | exact HB.out | apply below_alloc | apply pw_below_drewN | apply below_drew1 | refine below_set ?_ GE232.out) | exact HB.out)⟩
      · rw [if_neg c11] at H
        have c11b0 : (a0_0 == 3) = false := beq_eq_false_iff_ne.mpr c11
        have c11b1 : (a0_0 != 3) = true := bne_iff_ne.mpr c11
        obtain ⟨y235, hy235⟩ : ∃ y_ : List ByteArray, y_ = (([] : List ByteArray)) := ⟨_, rfl⟩
        replace H : (impl_written.l0 k y235 l0_4 (l0_4.length : Int) 0 a0_0 a0_1 a0_2 l0_3 l0_4) = some r := by first | (rw [hy235]; with_reducible exact H) | (have H2_ := (Option.bind_some _ _).symm.trans H; rw [hy235]; with_reducible exact H2_) | (have H2_ := (Option.bind_some _ _).symm.trans H; with_reducible exact H2_) | with_reducible exact H | (rw [hy235]; exact H) | exact H
        have Ny235 := Aside0.mk hy235
        clear hy235
        have H' := Aside0.mk H
        clear H
        go_enter Tryd.func27, Tryd.ntmps27
        go_wp2_with (first | ((with_reducible refine gate_dst (N := 1) rfl ?_); refine box_event ?hg (N := 1) ?hd (cs := #[.int .i64 a0_0, .string a0_1, .int .i64 a0_2, .slice A0_3 l0_3.length c0_3, .slice A0_4 l0_4.length c0_4]) (t := 33) ?hr ?_; (case hd => rfl); (case hg => rfl); (case hr => first | (go_simp; done) | (go_simp; rfl)); intro gb232 hg w17 hbox hb; have n0_ := Aside0.mk (below_step (by repeat (first | (with_reducible first | exact HB.out | apply below_alloc | apply pw_below_drewN | apply below_drew1) | exact HB.out)) hb); have n1_ := Aside0.mk (hbox); have n2_ := Aside0.mk ((by rw [hg]; exact (below_size (by repeat (first | (with_reducible first | exact HB.out | apply below_alloc | apply pw_below_drewN | apply below_drew1) | exact HB.out))) : w.heap.size ≤ gb232)); have n3_ := Aside0.mk ((by rw [hg]; exact (below_size (by repeat (first | (with_reducible first | exact HB.out | apply below_alloc | apply pw_below_drewN | apply below_drew1) | exact HB.out))) : w.heap.size ≤ gb232)); clear HB; have HB := n0_; have BK232 := n1_; have GW232 := n2_; have GE232 := n3_; clear n0_ n1_ n2_ n3_; clear hb hbox hg; have hcz18_0 : w17.cell? ⟨gb232, 0, none⟩ = some (.int .i64 a0_0) := (blk_cell BK232.out 0).trans rfl; have hcz18_1 : w17.cell? ⟨gb232, 1, none⟩ = some (.string a0_1) := (blk_cell BK232.out 1).trans rfl; have hcz18_2 : w17.cell? ⟨gb232, 2, none⟩ = some (.int .i64 a0_2) := (blk_cell BK232.out 2).trans rfl; have hcz18_3 : w17.cell? ⟨gb232, 3, none⟩ = some (.slice A0_3 l0_3.length c0_3) := (blk_cell BK232.out 3).trans rfl; have hcz18_4 : w17.cell? ⟨gb232, 4, none⟩ = some (.slice A0_4 l0_4.length c0_4) := (blk_cell BK232.out 4).trans rfl; have hfz18_0 := blk_frozen BK232.out 0; have hfz18_1 := blk_frozen BK232.out 1; have hfz18_2 := blk_frozen BK232.out 2; have hfz18_3 := blk_frozen BK232.out 3; have hfz18_4 := blk_frozen BK232.out 4) | ((with_reducible refine gate_dst (N := 25) rfl ?_); refine Kd.R_lit Kd.string _ 9 ?hg (N := 25) ?hd (xs := ([] : List ByteArray)) (inner := []) (ok := fun _ => True) (okp := fun _ => True) ?hr ?hp (fun _ hk => hk) trivial (Below.refl _ _) (Nat.le_refl _) (by simp) ?_; (case hd => rfl); (case hg => rfl); (case hr => first | (go_simp; done) | (go_simp; rfl)); (case hp => exact (Reps.none _ _)); intro v236 w19 ho20 hb hg_ hnew_; clear hg_ hnew_; (first | rw [← Ny235.out] at ho20 | (simp only [Int.reduceToNat] at ho20; rw [← Ny235.out] at ho20)); have n0_ := Aside0.mk (Kd.R_lower ho20 (below_size (by repeat (first | (with_reducible first | exact HB.out | apply below_alloc | apply pw_below_drewN | apply below_drew1 | refine below_set ?_ GE232.out) | exact HB.out)))); have n1_ := Aside0.mk (blk_below (g := gb232) (o := .cells #[.int .i64 a0_0, .string a0_1, .int .i64 a0_2, .slice A0_3 l0_3.length c0_3, .slice A0_4 l0_4.length c0_4] 33 (0, 0)) (by (with_reducible repeat (first | refine blk_drewN ?_ _ | refine blk_drew ?_ | refine blk_alloc ?_ _)); exact BK232.out) hb); have n2_ := Aside0.mk (below_step (by repeat (first | (with_reducible first | exact HB.out | apply below_alloc | apply pw_below_drewN | apply below_drew1 | refine below_set ?_ GE232.out) | exact HB.out)) hb); clear BK232; clear HB; have HO237 := n0_; have BK232 := n1_; have HB := n2_; clear n0_ n1_ n2_; clear hb ho20; have hcz21_0 : w19.cell? ⟨gb232, 0, none⟩ = some (.int .i64 a0_0) := (blk_cell BK232.out 0).trans rfl; have hcz21_1 : w19.cell? ⟨gb232, 1, none⟩ = some (.string a0_1) := (blk_cell BK232.out 1).trans rfl; have hcz21_2 : w19.cell? ⟨gb232, 2, none⟩ = some (.int .i64 a0_2) := (blk_cell BK232.out 2).trans rfl; have hcz21_3 : w19.cell? ⟨gb232, 3, none⟩ = some (.slice A0_3 l0_3.length c0_3) := (blk_cell BK232.out 3).trans rfl; have hcz21_4 : w19.cell? ⟨gb232, 4, none⟩ = some (.slice A0_4 l0_4.length c0_4) := (blk_cell BK232.out 4).trans rfl; have hfz21_0 := blk_frozen BK232.out 0; have hfz21_1 := blk_frozen BK232.out 1; have hfz21_2 := blk_frozen BK232.out 2; have hfz21_3 := blk_frozen BK232.out 3; have hfz21_4 := blk_frozen BK232.out 4))
        go_loopg [3, 29] k (fun kq v3 v29 w' => ∃ (x3_1 : List ByteArray) (x29_1 : Int), v29 = .int .i64 x29_1 ∧ Aside0 (impl_written.l0 kq x3_1 l0_4 (l0_4.length : Int) x29_1 a0_0 a0_1 a0_2 l0_3 l0_4 = some r) ∧ Aside0 (kq ≤ k) ∧ Aside0 (Kd.R Kd.string 9 w' w.heap.size (fun _ => True) v3 x3_1) ∧ Aside0 (w'.heap[gb232]? = some (.cells #[.int .i64 a0_0, .string a0_1, .int .i64 a0_2, (.slice A0_3 l0_3.length c0_3), (.slice A0_4 l0_4.length c0_4)] 33 (0, 0))) ∧ Aside0 (Below w.heap.size w w'))
        case atStart => exact ⟨(y235), (0), (by first | rfl | (simp; done) | (simp [*]; done)), H', ⟨Nat.le_refl _⟩, ⟨by (with_reducible repeat (first | apply Kd.R_alloc | apply Kd.R_drewN | apply Kd.R_drew)); exact HO237.out⟩, ⟨by (with_reducible repeat (first | refine blk_drewN ?_ _ | refine blk_drew ?_ | refine blk_alloc ?_ _)); exact BK232.out⟩, ⟨by repeat (first | (with_reducible first | exact HB.out | apply below_alloc | apply pw_below_drewN | apply below_drew1 | refine below_set ?_ GE232.out) | exact HB.out)⟩⟩
        case round =>
          clear H'
          try clear c1
          try clear c2
          try clear c2b0
          try clear c2b1
          try clear p2
          try clear c3
          try clear c4
          try clear c7
          try clear c7b0
          try clear c7b1
          try clear c11
          try clear c11b0
          try clear c11b1
          try clear c12
          try clear c12b0
          try clear c12b1
          try clear hcz10_0
          try clear hcz10_1
          try clear hcz10_2
          try clear hcz10_3
          try clear hcz10_4
          try clear hcz14_0
          try clear hcz14_1
          try clear hcz14_2
          try clear hcz14_3
          try clear hcz14_4
          try clear hcz16_0
          try clear hcz16_1
          try clear hcz16_2
          try clear hcz16_3
          try clear hcz16_4
          try clear hcz18_0
          try clear hcz18_1
          try clear hcz18_2
          try clear hcz18_3
          try clear hcz18_4
          try clear hcz21_0
          try clear hcz21_1
          try clear hcz21_2
          try clear hcz21_3
          try clear hcz21_4
          try clear hcz5_0
          try clear hcz5_1
          try clear hcz5_2
          try clear hcz5_3
          try clear hcz5_4
          try clear hfz10_0
          try clear hfz10_1
          try clear hfz10_2
          try clear hfz10_3
          try clear hfz10_4
          try clear hfz14_0
          try clear hfz14_1
          try clear hfz14_2
          try clear hfz14_3
          try clear hfz14_4
          try clear hfz16_0
          try clear hfz16_1
          try clear hfz16_2
          try clear hfz16_3
          try clear hfz16_4
          try clear hfz18_0
          try clear hfz18_1
          try clear hfz18_2
          try clear hfz18_3
          try clear hfz18_4
          try clear hfz21_0
          try clear hfz21_1
          try clear hfz21_2
          try clear hfz21_3
          try clear hfz21_4
          try clear hfz5_0
          try clear hfz5_1
          try clear hfz5_2
          try clear hfz5_3
          try clear hfz5_4
          obtain ⟨x3_1, x29_1, rfl, HA, HK1, HO_3, BK232, HB⟩ := hrel
          cases gk with
          | zero => exact absurd HA.out (by simp [impl_written.l0])
          | succ k1 =>
            have H := HA.out
            clear HA
            simp only [impl_written.l0] at H
            by_cases c22 : x29_1 < (l0_4.length : Int)
            · rw [if_pos c22] at H
              have c22b0 : decide (x29_1 < (l0_4.length : Int)) = true := decide_eq_true c22
              clear c22
              by_cases c23 : 0 ≤ x29_1
              · rw [if_pos c23] at H
                have c23b0 : decide (0 ≤ x29_1) = true := decide_eq_true c23
                clear c23
                by_cases c24 : x29_1 < (l0_4.length : Int)
                · rw [if_pos c24] at H
                  have c24b0 : decide (x29_1 < (l0_4.length : Int)) = true := decide_eq_true c24
                  clear c24
                  replace H := Option.bind_eq_some_iff.mp H
                  obtain ⟨t240, A250, H⟩ := H
                  replace H : (if a0_0 = 5 then (if x29_1 < (l0_3.length : Int) then (if (rdOf ByteArray.empty l0_3 x29_1).size + 1 ≤ 9223372036854775807 then (if ((rdOf ByteArray.empty l0_3 x29_1) ++ (⟨#[58]⟩ : ByteArray)).size + t240.size ≤ 9223372036854775807 then (if x3_1.length < 8796093022208 then (impl_written.l0 k1 (x3_1 ++ [((rdOf ByteArray.empty l0_3 x29_1) ++ (⟨#[58]⟩ : ByteArray)) ++ t240]) l0_4 (l0_4.length : Int) (wrap64 (x29_1 + 1)) a0_0 a0_1 a0_2 l0_3 l0_4) else (none)) else (none)) else (none)) else (none)) else (if x3_1.length < 8796093022208 then (impl_written.l0 k1 (x3_1 ++ [t240]) l0_4 (l0_4.length : Int) (wrap64 (x29_1 + 1)) a0_0 a0_1 a0_2 l0_3 l0_4) else (none))) = some r := H
                  have A25 := Aside0.mk A250
                  clear A250
                  by_cases c26 : a0_0 = 5
                  · rw [if_pos c26] at H
                    have c26b0 : (a0_0 == 5) = true := beq_iff_eq.mpr c26
                    have c26b1 : (a0_0 != 5) = false := bne_eq_false_iff_eq.mpr c26
                    clear c26
                    by_cases c27 : x29_1 < (l0_3.length : Int)
                    · rw [if_pos c27] at H
                      have c27b0 : decide (x29_1 < (l0_3.length : Int)) = true := decide_eq_true c27
                      clear c27
                      by_cases c28 : (rdOf ByteArray.empty l0_3 x29_1).size + 1 ≤ 9223372036854775807
                      · rw [if_pos c28] at H
                        have c28b0 := eq_true c28
                        have c28b1 : decide ((rdOf ByteArray.empty l0_3 x29_1).size + 1 ≤ 9223372036854775807) = true := decide_eq_true c28
                        try have c28b2 : (9223372036854775807 < (rdOf ByteArray.empty l0_3 x29_1).size + 1) = False := eq_false (Nat.not_lt.2 c28)
                        by_cases c29 : ((rdOf ByteArray.empty l0_3 x29_1) ++ (⟨#[58]⟩ : ByteArray)).size + t240.size ≤ 9223372036854775807
                        · rw [if_pos c29] at H
                          have c29b0 := eq_true c29
                          have c29b1 : decide (((rdOf ByteArray.empty l0_3 x29_1) ++ (⟨#[58]⟩ : ByteArray)).size + t240.size ≤ 9223372036854775807) = true := decide_eq_true c29
                          try have c29b2 : (9223372036854775807 < ((rdOf ByteArray.empty l0_3 x29_1) ++ (⟨#[58]⟩ : ByteArray)).size + t240.size) = False := eq_false (Nat.not_lt.2 c29)
                          by_cases c30 : x3_1.length < 8796093022208
                          · rw [if_pos c30] at H
                            have LMc30 := Aside0.mk c30
                            clear c30
                            obtain ⟨y242, hy242⟩ : ∃ y_ : List ByteArray, y_ = (x3_1 ++ [((rdOf ByteArray.empty l0_3 x29_1) ++ (⟨#[58]⟩ : ByteArray)) ++ t240]) := ⟨_, rfl⟩
                            replace H : (impl_written.l0 k1 y242 l0_4 (l0_4.length : Int) (wrap64 (x29_1 + 1)) a0_0 a0_1 a0_2 l0_3 l0_4) = some r := by first | (rw [hy242]; with_reducible exact H) | (have H2_ := (Option.bind_some _ _).symm.trans H; rw [hy242]; with_reducible exact H2_) | (have H2_ := (Option.bind_some _ _).symm.trans H; with_reducible exact H2_) | with_reducible exact H | (rw [hy242]; exact H) | exact H
                            have Ny242 := Aside0.mk hy242
                            clear hy242
                            have H' := Aside0.mk H
                            clear H
                            have p238 : 0 ≤ (x29_1 : Int) := of_decide_eq_true (by first | (with_reducible assumption) | assumption)
                            have q238 : x29_1 < (l0_4.length : Int) := of_decide_eq_true (by first | (with_reducible assumption) | assumption)
                            obtain ⟨ad238, A238_3, c238_3, A238_4, c238_4, e238, hx238_0, hx238_1, hx238_2, hx238_3, hx238_4, hl238_3, hi238_3, hl238_4, hi238_4⟩ := at_T33 HR0_4.out x29_1 p238 q238
                            cases e238
                            replace hx238_0 := (HB.out.cell (World.block_lt_of_cell? w _ hx238_0)).trans hx238_0
                            replace hx238_1 := (HB.out.cell (World.block_lt_of_cell? w _ hx238_1)).trans hx238_1
                            replace hx238_2 := (HB.out.cell (World.block_lt_of_cell? w _ hx238_2)).trans hx238_2
                            replace hx238_3 := (HB.out.cell (World.block_lt_of_cell? w _ hx238_3)).trans hx238_3
                            replace hx238_4 := (HB.out.cell (World.block_lt_of_cell? w _ hx238_4)).trans hx238_4
                            have HR238_3 := Aside0.mk hi238_3
                            have HC238_3 := Aside0.mk hl238_3
                            clear hi238_3 hl238_3
                            have HR238_4 := Aside0.mk hi238_4
                            have HC238_4 := Aside0.mk hl238_4
                            clear hi238_4 hl238_4
                            replace p238 := eq_true p238
                            replace q238 := eq_true q238
                            go_wp2_with (first | ((with_reducible refine gate_dst (N := 5) rfl ?_); refine box_event ?hg (N := 5) ?hd (cs := #[.int .i64 0, .string (⟨#[]⟩ : ByteArray), .int .i64 0, .slice none 0 0, .slice none 0 0]) (t := 33) ?hr ?_; (case hd => rfl); (case hg => rfl); (case hr => first | (go_simp; done) | (go_simp; rfl)); intro gb239 hg w31 hbox hb; have n0_ := Aside0.mk (Kd.R_below (by (with_reducible repeat (first | apply Kd.R_alloc | apply Kd.R_drewN | apply Kd.R_drew)); exact HO_3.out) hb); have n1_ := Aside0.mk (blk_below (g := gb232) (o := .cells #[.int .i64 a0_0, .string a0_1, .int .i64 a0_2, .slice A0_3 l0_3.length c0_3, .slice (some ad238) l0_4.length c0_4] 33 (0, 0)) (by (with_reducible repeat (first | refine blk_drewN ?_ _ | refine blk_drew ?_ | refine blk_alloc ?_ _)); exact BK232.out) hb); have n2_ := Aside0.mk (below_step (by repeat (first | (with_reducible first | exact HB.out | apply below_alloc | apply pw_below_drewN | apply below_drew1 | refine below_set ?_ GE232.out) | exact HB.out)) hb); have n3_ := Aside0.mk (hbox); have n4_ := Aside0.mk ((by rw [hg]; exact (below_size (by repeat (first | (with_reducible first | exact HB.out | apply below_alloc | apply pw_below_drewN | apply below_drew1 | refine below_set ?_ GE232.out) | exact HB.out))) : w.heap.size ≤ gb239)); have n5_ := Aside0.mk ((by rw [hg]; exact (below_size (by repeat (first | (with_reducible first | exact HB.out | apply below_alloc | apply pw_below_drewN | apply below_drew1 | refine below_set ?_ GE232.out) | exact HB.out))) : w.heap.size ≤ gb239)); have n6_ := Aside0.mk ((by rw [hg]; exact Nat.ne_of_lt (blk_lt (g := gb232) (o := .cells #[.int .i64 a0_0, .string a0_1, .int .i64 a0_2, .slice A0_3 l0_3.length c0_3, .slice (some ad238) l0_4.length c0_4] 33 (0, 0)) (by (with_reducible repeat (first | refine blk_drewN ?_ _ | refine blk_drew ?_ | refine blk_alloc ?_ _)); exact BK232.out)) : gb232 ≠ gb239)); have n7_ := Aside0.mk ((by rw [hg]; exact Nat.ne_of_gt (blk_lt (g := gb232) (o := .cells #[.int .i64 a0_0, .string a0_1, .int .i64 a0_2, .slice A0_3 l0_3.length c0_3, .slice (some ad238) l0_4.length c0_4] 33 (0, 0)) (by (with_reducible repeat (first | refine blk_drewN ?_ _ | refine blk_drew ?_ | refine blk_alloc ?_ _)); exact BK232.out)) : gb239 ≠ gb232)); clear HO_3; clear BK232; clear HB; have HO_3 := n0_; have BK232 := n1_; have HB := n2_; have BK239 := n3_; have GW239 := n4_; have GE239 := n5_; have NB232_239 := n6_; have NB239_232 := n7_; clear n0_ n1_ n2_ n3_ n4_ n5_ n6_ n7_; clear hb hbox hg; have hnb32 := NB239_232.out; have hnc32 := NB232_239.out; have hcz33_0 : w31.cell? ⟨gb239, 0, none⟩ = some (.int .i64 0) := (blk_cell BK239.out 0).trans rfl; have hcz33_1 : w31.cell? ⟨gb239, 1, none⟩ = some (.string (⟨#[]⟩ : ByteArray)) := (blk_cell BK239.out 1).trans rfl; have hcz33_2 : w31.cell? ⟨gb239, 2, none⟩ = some (.int .i64 0) := (blk_cell BK239.out 2).trans rfl; have hcz33_3 : w31.cell? ⟨gb239, 3, none⟩ = some (.slice none 0 0) := (blk_cell BK239.out 3).trans rfl; have hcz33_4 : w31.cell? ⟨gb239, 4, none⟩ = some (.slice none 0 0) := (blk_cell BK239.out 4).trans rfl; have hfz33_0 := blk_frozen BK239.out 0; have hfz33_1 := blk_frozen BK239.out 1; have hfz33_2 := blk_frozen BK239.out 2; have hfz33_3 := blk_frozen BK239.out 3; have hfz33_4 := blk_frozen BK239.out 4) | ((with_reducible refine gate_callee (f := 27) rfl ?_); refine goesL_ (some 35) rfl rfl Tryd.func27 (by kernel_rfl) rfl #[.agg #[.int .i64 ((rd_T33 l0_4 x29_1).f0), .string ((rd_T33 l0_4 x29_1).f1), .int .i64 ((rd_T33 l0_4 x29_1).f2), .slice A238_3 ((rd_T33 l0_4 x29_1).f3).length c238_3, .slice A238_4 ((rd_T33 l0_4 x29_1).f4).length c238_4]] rfl (by (try simp only [List.map_toArray, List.map_cons, List.map_nil]); first | done | rfl | (simp only [List.length_drop, List.length_take]; rfl)) ?_; (with_reducible refine (ih k1 (by have := HK1.out; omega) ((rd_T33 l0_4 x29_1).f0) ((rd_T33 l0_4 x29_1).f1) ((rd_T33 l0_4 x29_1).f2) _ _ ((rd_T33 l0_4 x29_1).f3) _ _ ((rd_T33 l0_4 x29_1).f4) t240 _ ?side1 ?side2 ?side3 ?side4 (SH.below hsh_ (by repeat (first | (with_reducible first | exact HB.out | apply below_alloc | apply pw_below_drewN | apply below_drew1 | refine below_set ?_ GE232.out | refine below_set ?_ GE239.out) | exact HB.out))) A25.out).mono ?_); (case side1 => exact Kd.C_below HR238_3.out (by repeat (first | (with_reducible first | exact HB.out | apply below_alloc | apply pw_below_drewN | apply below_drew1 | refine below_set ?_ GE232.out | refine below_set ?_ GE239.out) | exact HB.out))); (case side2 => exact HC238_3.out); (case side3 => exact Kd.C_below HR238_4.out (by repeat (first | (with_reducible first | exact HB.out | apply below_alloc | apply pw_below_drewN | apply below_drew1 | refine below_set ?_ GE232.out | refine below_set ?_ GE239.out) | exact HB.out))); (case side4 => exact HC238_4.out); rintro e w34 ⟨rfl, hb⟩; refine ⟨_, rfl, ?_⟩; have n0_ := Aside0.mk (Kd.R_below (by (with_reducible repeat (first | apply Kd.R_alloc | apply Kd.R_drewN | apply Kd.R_drew)); exact (Kd.R_mono (Kd.R_far (p := ⟨gb239, 4, none⟩) (Kd.R_far (p := ⟨gb239, 3, none⟩) (Kd.R_far (p := ⟨gb239, 2, none⟩) (Kd.R_far (p := ⟨gb239, 1, none⟩) (Kd.R_far (p := ⟨gb239, 0, none⟩) (Kd.R_types HO_3.out BK239.out (by decide)) (fun _ hk => hk.2) (.int .i64 ((rd_T33 l0_4 x29_1).f0))) (fun _ hk => hk.2) (.string ((rd_T33 l0_4 x29_1).f1))) (fun _ hk => hk.2) (.int .i64 ((rd_T33 l0_4 x29_1).f2))) (fun _ hk => hk.2) (.slice A238_3 ((rd_T33 l0_4 x29_1).f3).length c238_3)) (fun _ hk => hk.2) (.slice A238_4 ((rd_T33 l0_4 x29_1).f4).length c238_4)) (fun _ h_ => h_.1))) hb); have n1_ := Aside0.mk (blk_below (g := gb232) (o := .cells #[.int .i64 a0_0, .string a0_1, .int .i64 a0_2, .slice A0_3 l0_3.length c0_3, .slice (some ad238) l0_4.length c0_4] 33 (0, 0)) (by (with_reducible repeat (first | refine blk_drewN ?_ _ | refine blk_drew ?_ | refine blk_alloc ?_ _)); refine blk_far ?_ NB232_239.out _; (with_reducible repeat (first | refine blk_drewN ?_ _ | refine blk_drew ?_ | refine blk_alloc ?_ _)); refine blk_far ?_ NB232_239.out _; (with_reducible repeat (first | refine blk_drewN ?_ _ | refine blk_drew ?_ | refine blk_alloc ?_ _)); refine blk_far ?_ NB232_239.out _; (with_reducible repeat (first | refine blk_drewN ?_ _ | refine blk_drew ?_ | refine blk_alloc ?_ _)); refine blk_far ?_ NB232_239.out _; (with_reducible repeat (first | refine blk_drewN ?_ _ | refine blk_drew ?_ | refine blk_alloc ?_ _)); refine blk_far ?_ NB232_239.out _; (with_reducible repeat (first | refine blk_drewN ?_ _ | refine blk_drew ?_ | refine blk_alloc ?_ _)); exact BK232.out) hb); have n2_ := Aside0.mk (blk_below (g := gb239) (o := .cells #[.int .i64 ((rd_T33 l0_4 x29_1).f0), .string ((rd_T33 l0_4 x29_1).f1), .int .i64 ((rd_T33 l0_4 x29_1).f2), .slice A238_3 ((rd_T33 l0_4 x29_1).f3).length c238_3, .slice A238_4 ((rd_T33 l0_4 x29_1).f4).length c238_4] 33 (0, 0)) (by (with_reducible repeat (first | refine blk_drewN ?_ _ | refine blk_drew ?_ | refine blk_alloc ?_ _)); refine blk_put (cs := #[.int .i64 ((rd_T33 l0_4 x29_1).f0), .string ((rd_T33 l0_4 x29_1).f1), .int .i64 ((rd_T33 l0_4 x29_1).f2), .slice A238_3 ((rd_T33 l0_4 x29_1).f3).length c238_3, .slice none 0 0]) ?_ 4 _ rfl; (with_reducible repeat (first | refine blk_drewN ?_ _ | refine blk_drew ?_ | refine blk_alloc ?_ _)); refine blk_put (cs := #[.int .i64 ((rd_T33 l0_4 x29_1).f0), .string ((rd_T33 l0_4 x29_1).f1), .int .i64 ((rd_T33 l0_4 x29_1).f2), .slice none 0 0, .slice none 0 0]) ?_ 3 _ rfl; (with_reducible repeat (first | refine blk_drewN ?_ _ | refine blk_drew ?_ | refine blk_alloc ?_ _)); refine blk_put (cs := #[.int .i64 ((rd_T33 l0_4 x29_1).f0), .string ((rd_T33 l0_4 x29_1).f1), .int .i64 0, .slice none 0 0, .slice none 0 0]) ?_ 2 _ rfl; (with_reducible repeat (first | refine blk_drewN ?_ _ | refine blk_drew ?_ | refine blk_alloc ?_ _)); refine blk_put (cs := #[.int .i64 ((rd_T33 l0_4 x29_1).f0), .string (⟨#[]⟩ : ByteArray), .int .i64 0, .slice none 0 0, .slice none 0 0]) ?_ 1 _ rfl; (with_reducible repeat (first | refine blk_drewN ?_ _ | refine blk_drew ?_ | refine blk_alloc ?_ _)); refine blk_put (cs := #[.int .i64 0, .string (⟨#[]⟩ : ByteArray), .int .i64 0, .slice none 0 0, .slice none 0 0]) ?_ 0 _ rfl; (with_reducible repeat (first | refine blk_drewN ?_ _ | refine blk_drew ?_ | refine blk_alloc ?_ _)); exact BK239.out) hb); have n3_ := Aside0.mk (below_step (by repeat (first | (with_reducible first | exact HB.out | apply below_alloc | apply pw_below_drewN | apply below_drew1 | refine below_set ?_ GE232.out | refine below_set ?_ GE239.out) | exact HB.out)) hb); clear HO_3; clear BK232; clear BK239; clear HB; have HO_3 := n0_; have BK232 := n1_; have BK239 := n2_; have HB := n3_; clear n0_ n1_ n2_ n3_; (try clear hb); (try clear hb2); (try clear hk); (try clear hi); have hcz35_0 : w34.cell? ⟨gb232, 0, none⟩ = some (.int .i64 a0_0) := (blk_cell BK232.out 0).trans rfl; have hcz35_1 : w34.cell? ⟨gb232, 1, none⟩ = some (.string a0_1) := (blk_cell BK232.out 1).trans rfl; have hcz35_2 : w34.cell? ⟨gb232, 2, none⟩ = some (.int .i64 a0_2) := (blk_cell BK232.out 2).trans rfl; have hcz35_3 : w34.cell? ⟨gb232, 3, none⟩ = some (.slice A0_3 l0_3.length c0_3) := (blk_cell BK232.out 3).trans rfl; have hcz35_4 : w34.cell? ⟨gb232, 4, none⟩ = some (.slice (some ad238) l0_4.length c0_4) := (blk_cell BK232.out 4).trans rfl; have hfz35_0 := blk_frozen BK232.out 0; have hfz35_1 := blk_frozen BK232.out 1; have hfz35_2 := blk_frozen BK232.out 2; have hfz35_3 := blk_frozen BK232.out 3; have hfz35_4 := blk_frozen BK232.out 4; have p241 : 0 ≤ (x29_1 : Int) := of_decide_eq_true (by first | (with_reducible assumption) | assumption); have q241 : x29_1 < (l0_3.length : Int) := of_decide_eq_true (by first | (with_reducible assumption) | assumption); obtain ⟨ad241, e241, hx241_0⟩ := Kd.at_string HR0_3.out x29_1 p241 q241; cases e241; replace hx241_0 := (HB.out.cell (World.block_lt_of_cell? w _ hx241_0)).trans hx241_0; replace p241 := eq_true p241; replace q241 := eq_true q241) | ((with_reducible refine gate_builtin (b := .append) (xs := #[.tmp 47, .tmp 49]) rfl ?_); at_builtin; refine Kd.R_append Kd.string (w0 := w) w.heap.size rfl (.tmp 47) (.tmp 49) 25 9 (.string ⟨#[]⟩) 16 rfl Tryd.underlying25 info9 rfl (by decide) (by omega) u3 x3_1 (((rdOf ByteArray.empty l0_3 x29_1) ++ (⟨#[58]⟩ : ByteArray)) ++ t240) [.string (((rdOf ByteArray.empty l0_3 x29_1) ++ (⟨#[58]⟩ : ByteArray)) ++ t240)] (fun _ => True) (fun _ => False) rfl rfl ?aP (fun _ hk => hk.elim) ?aF ?aO ?aB ?aS ?aL ?_; (case aP => exact rfl); (case aB => exact (by repeat (first | (with_reducible first | exact HB.out | apply below_alloc | apply pw_below_drewN | apply below_drew1 | refine below_set ?_ GE232.out | refine below_set ?_ GE239.out) | exact HB.out))); (case aF => exact (fun _ _ => trivial)); (case aO => exact (by (with_reducible repeat (first | apply Kd.R_alloc | apply Kd.R_drewN | apply Kd.R_drew)); exact HO_3.out)); (case aS => exact (below_size (by repeat (first | (with_reducible first | exact HB.out | apply below_alloc | apply pw_below_drewN | apply below_drew1 | refine below_set ?_ GE232.out | refine below_set ?_ GE239.out) | exact HB.out)))); (case aL => have := LMc30.out; omega); intro v243 w36 ho hb hg hat; rw [← Ny242.out] at ho; have n0_ := Aside0.mk (blk_grown (g := gb232) (o := .cells #[.int .i64 a0_0, .string a0_1, .int .i64 a0_2, .slice (some ad241) l0_3.length c0_3, .slice (some ad238) l0_4.length c0_4] 33 (0, 0)) (by (with_reducible repeat (first | refine blk_drewN ?_ _ | refine blk_drew ?_ | refine blk_alloc ?_ _)); exact BK232.out) hg (Kd.R_ne HO_3.out BK232.out (by decide))); have n1_ := Aside0.mk (blk_grown (g := gb239) (o := .cells #[.int .i64 ((rd_T33 l0_4 x29_1).f0), .string ((rd_T33 l0_4 x29_1).f1), .int .i64 ((rd_T33 l0_4 x29_1).f2), .slice A238_3 ((rd_T33 l0_4 x29_1).f3).length c238_3, .slice A238_4 ((rd_T33 l0_4 x29_1).f4).length c238_4] 33 (0, 0)) (by (with_reducible repeat (first | refine blk_drewN ?_ _ | refine blk_drew ?_ | refine blk_alloc ?_ _)); exact BK239.out) hg (Kd.R_ne HO_3.out BK239.out (by decide))); have n2_ := Aside0.mk (hb); have n3_ := Aside0.mk (ho); clear BK232; clear BK239; clear HB; clear HO_3; have BK232 := n0_; have BK239 := n1_; have HB := n2_; have HO244 := n3_; clear n0_ n1_ n2_ n3_; clear ho hb hg hat))
                            go_roundg k1
                            case measure => have := HK1.out; omega
                            case rel => exact ⟨(y242), (wrap64 (x29_1 + 1)), (by first | rfl | (simp; done) | (simp [*]; done)), H', ⟨by have := HK1.out; omega⟩, ⟨by (with_reducible repeat (first | apply Kd.R_alloc | apply Kd.R_drewN | apply Kd.R_drew)); exact HO244.out⟩, ⟨by (with_reducible repeat (first | refine blk_drewN ?_ _ | refine blk_drew ?_ | refine blk_alloc ?_ _)); exact BK232.out⟩, ⟨by repeat (first | (with_reducible first | exact HB.out | apply below_alloc | apply pw_below_drewN | apply below_drew1 | refine below_set ?_ GE232.out | refine below_set ?_ GE239.out) | exact HB.out)⟩⟩
                          · rw [if_neg c30] at H
                            exact absurd H (by simp)
                        · rw [if_neg c29] at H
                          exact absurd H (by simp)
                      · rw [if_neg c28] at H
                        exact absurd H (by simp)
                    · rw [if_neg c27] at H
                      exact absurd H (by simp)
                  · rw [if_neg c26] at H
                    have c26b0 : (a0_0 == 5) = false := beq_eq_false_iff_ne.mpr c26
                    have c26b1 : (a0_0 != 5) = true := bne_iff_ne.mpr c26
                    by_cases c37 : x3_1.length < 8796093022208
                    · rw [if_pos c37] at H
                      have LMc37 := Aside0.mk c37
                      clear c37
                      obtain ⟨y245, hy245⟩ : ∃ y_ : List ByteArray, y_ = (x3_1 ++ [t240]) := ⟨_, rfl⟩
                      replace H : (impl_written.l0 k1 y245 l0_4 (l0_4.length : Int) (wrap64 (x29_1 + 1)) a0_0 a0_1 a0_2 l0_3 l0_4) = some r := by first | (rw [hy245]; with_reducible exact H) | (have H2_ := (Option.bind_some _ _).symm.trans H; rw [hy245]; with_reducible exact H2_) | (have H2_ := (Option.bind_some _ _).symm.trans H; with_reducible exact H2_) | with_reducible exact H | (rw [hy245]; exact H) | exact H
                      have Ny245 := Aside0.mk hy245
                      clear hy245
                      have H' := Aside0.mk H
                      clear H
                      have p238 : 0 ≤ (x29_1 : Int) := of_decide_eq_true (by first | (with_reducible assumption) | assumption)
                      have q238 : x29_1 < (l0_4.length : Int) := of_decide_eq_true (by first | (with_reducible assumption) | assumption)
                      obtain ⟨ad238, A238_3, c238_3, A238_4, c238_4, e238, hx238_0, hx238_1, hx238_2, hx238_3, hx238_4, hl238_3, hi238_3, hl238_4, hi238_4⟩ := at_T33 HR0_4.out x29_1 p238 q238
                      cases e238
                      replace hx238_0 := (HB.out.cell (World.block_lt_of_cell? w _ hx238_0)).trans hx238_0
                      replace hx238_1 := (HB.out.cell (World.block_lt_of_cell? w _ hx238_1)).trans hx238_1
                      replace hx238_2 := (HB.out.cell (World.block_lt_of_cell? w _ hx238_2)).trans hx238_2
                      replace hx238_3 := (HB.out.cell (World.block_lt_of_cell? w _ hx238_3)).trans hx238_3
                      replace hx238_4 := (HB.out.cell (World.block_lt_of_cell? w _ hx238_4)).trans hx238_4
                      have HR238_3 := Aside0.mk hi238_3
                      have HC238_3 := Aside0.mk hl238_3
                      clear hi238_3 hl238_3
                      have HR238_4 := Aside0.mk hi238_4
                      have HC238_4 := Aside0.mk hl238_4
                      clear hi238_4 hl238_4
                      replace p238 := eq_true p238
                      replace q238 := eq_true q238
                      go_wp2_with (first | ((with_reducible refine gate_dst (N := 5) rfl ?_); refine box_event ?hg (N := 5) ?hd (cs := #[.int .i64 0, .string (⟨#[]⟩ : ByteArray), .int .i64 0, .slice none 0 0, .slice none 0 0]) (t := 33) ?hr ?_; (case hd => rfl); (case hg => rfl); (case hr => first | (go_simp; done) | (go_simp; rfl)); intro gb239 hg w38 hbox hb; have n0_ := Aside0.mk (Kd.R_below (by (with_reducible repeat (first | apply Kd.R_alloc | apply Kd.R_drewN | apply Kd.R_drew)); exact HO_3.out) hb); have n1_ := Aside0.mk (blk_below (g := gb232) (o := .cells #[.int .i64 a0_0, .string a0_1, .int .i64 a0_2, .slice A0_3 l0_3.length c0_3, .slice (some ad238) l0_4.length c0_4] 33 (0, 0)) (by (with_reducible repeat (first | refine blk_drewN ?_ _ | refine blk_drew ?_ | refine blk_alloc ?_ _)); exact BK232.out) hb); have n2_ := Aside0.mk (below_step (by repeat (first | (with_reducible first | exact HB.out | apply below_alloc | apply pw_below_drewN | apply below_drew1 | refine below_set ?_ GE232.out) | exact HB.out)) hb); have n3_ := Aside0.mk (hbox); have n4_ := Aside0.mk ((by rw [hg]; exact (below_size (by repeat (first | (with_reducible first | exact HB.out | apply below_alloc | apply pw_below_drewN | apply below_drew1 | refine below_set ?_ GE232.out) | exact HB.out))) : w.heap.size ≤ gb239)); have n5_ := Aside0.mk ((by rw [hg]; exact (below_size (by repeat (first | (with_reducible first | exact HB.out | apply below_alloc | apply pw_below_drewN | apply below_drew1 | refine below_set ?_ GE232.out) | exact HB.out))) : w.heap.size ≤ gb239)); have n6_ := Aside0.mk ((by rw [hg]; exact Nat.ne_of_lt (blk_lt (g := gb232) (o := .cells #[.int .i64 a0_0, .string a0_1, .int .i64 a0_2, .slice A0_3 l0_3.length c0_3, .slice (some ad238) l0_4.length c0_4] 33 (0, 0)) (by (with_reducible repeat (first | refine blk_drewN ?_ _ | refine blk_drew ?_ | refine blk_alloc ?_ _)); exact BK232.out)) : gb232 ≠ gb239)); have n7_ := Aside0.mk ((by rw [hg]; exact Nat.ne_of_gt (blk_lt (g := gb232) (o := .cells #[.int .i64 a0_0, .string a0_1, .int .i64 a0_2, .slice A0_3 l0_3.length c0_3, .slice (some ad238) l0_4.length c0_4] 33 (0, 0)) (by (with_reducible repeat (first | refine blk_drewN ?_ _ | refine blk_drew ?_ | refine blk_alloc ?_ _)); exact BK232.out)) : gb239 ≠ gb232)); clear HO_3; clear BK232; clear HB; have HO_3 := n0_; have BK232 := n1_; have HB := n2_; have BK239 := n3_; have GW239 := n4_; have GE239 := n5_; have NB232_239 := n6_; have NB239_232 := n7_; clear n0_ n1_ n2_ n3_ n4_ n5_ n6_ n7_; clear hb hbox hg; have hnb39 := NB239_232.out; have hnc39 := NB232_239.out; have hcz40_0 : w38.cell? ⟨gb239, 0, none⟩ = some (.int .i64 0) := (blk_cell BK239.out 0).trans rfl; have hcz40_1 : w38.cell? ⟨gb239, 1, none⟩ = some (.string (⟨#[]⟩ : ByteArray)) := (blk_cell BK239.out 1).trans rfl; have hcz40_2 : w38.cell? ⟨gb239, 2, none⟩ = some (.int .i64 0) := (blk_cell BK239.out 2).trans rfl; have hcz40_3 : w38.cell? ⟨gb239, 3, none⟩ = some (.slice none 0 0) := (blk_cell BK239.out 3).trans rfl; have hcz40_4 : w38.cell? ⟨gb239, 4, none⟩ = some (.slice none 0 0) := (blk_cell BK239.out 4).trans rfl; have hfz40_0 := blk_frozen BK239.out 0; have hfz40_1 := blk_frozen BK239.out 1; have hfz40_2 := blk_frozen BK239.out 2; have hfz40_3 := blk_frozen BK239.out 3; have hfz40_4 := blk_frozen BK239.out 4) | ((with_reducible refine gate_callee (f := 27) rfl ?_); refine goesL_ (some 35) rfl rfl Tryd.func27 (by kernel_rfl) rfl #[.agg #[.int .i64 ((rd_T33 l0_4 x29_1).f0), .string ((rd_T33 l0_4 x29_1).f1), .int .i64 ((rd_T33 l0_4 x29_1).f2), .slice A238_3 ((rd_T33 l0_4 x29_1).f3).length c238_3, .slice A238_4 ((rd_T33 l0_4 x29_1).f4).length c238_4]] rfl (by (try simp only [List.map_toArray, List.map_cons, List.map_nil]); first | done | rfl | (simp only [List.length_drop, List.length_take]; rfl)) ?_; (with_reducible refine (ih k1 (by have := HK1.out; omega) ((rd_T33 l0_4 x29_1).f0) ((rd_T33 l0_4 x29_1).f1) ((rd_T33 l0_4 x29_1).f2) _ _ ((rd_T33 l0_4 x29_1).f3) _ _ ((rd_T33 l0_4 x29_1).f4) t240 _ ?side1 ?side2 ?side3 ?side4 (SH.below hsh_ (by repeat (first | (with_reducible first | exact HB.out | apply below_alloc | apply pw_below_drewN | apply below_drew1 | refine below_set ?_ GE232.out | refine below_set ?_ GE239.out) | exact HB.out))) A25.out).mono ?_); (case side1 => exact Kd.C_below HR238_3.out (by repeat (first | (with_reducible first | exact HB.out | apply below_alloc | apply pw_below_drewN | apply below_drew1 | refine below_set ?_ GE232.out | refine below_set ?_ GE239.out) | exact HB.out))); (case side2 => exact HC238_3.out); (case side3 => exact Kd.C_below HR238_4.out (by repeat (first | (with_reducible first | exact HB.out | apply below_alloc | apply pw_below_drewN | apply below_drew1 | refine below_set ?_ GE232.out | refine below_set ?_ GE239.out) | exact HB.out))); (case side4 => exact HC238_4.out); rintro e w41 ⟨rfl, hb⟩; refine ⟨_, rfl, ?_⟩; have n0_ := Aside0.mk (Kd.R_below (by (with_reducible repeat (first | apply Kd.R_alloc | apply Kd.R_drewN | apply Kd.R_drew)); exact (Kd.R_mono (Kd.R_far (p := ⟨gb239, 4, none⟩) (Kd.R_far (p := ⟨gb239, 3, none⟩) (Kd.R_far (p := ⟨gb239, 2, none⟩) (Kd.R_far (p := ⟨gb239, 1, none⟩) (Kd.R_far (p := ⟨gb239, 0, none⟩) (Kd.R_types HO_3.out BK239.out (by decide)) (fun _ hk => hk.2) (.int .i64 ((rd_T33 l0_4 x29_1).f0))) (fun _ hk => hk.2) (.string ((rd_T33 l0_4 x29_1).f1))) (fun _ hk => hk.2) (.int .i64 ((rd_T33 l0_4 x29_1).f2))) (fun _ hk => hk.2) (.slice A238_3 ((rd_T33 l0_4 x29_1).f3).length c238_3)) (fun _ hk => hk.2) (.slice A238_4 ((rd_T33 l0_4 x29_1).f4).length c238_4)) (fun _ h_ => h_.1))) hb); have n1_ := Aside0.mk (blk_below (g := gb232) (o := .cells #[.int .i64 a0_0, .string a0_1, .int .i64 a0_2, .slice A0_3 l0_3.length c0_3, .slice (some ad238) l0_4.length c0_4] 33 (0, 0)) (by (with_reducible repeat (first | refine blk_drewN ?_ _ | refine blk_drew ?_ | refine blk_alloc ?_ _)); refine blk_far ?_ NB232_239.out _; (with_reducible repeat (first | refine blk_drewN ?_ _ | refine blk_drew ?_ | refine blk_alloc ?_ _)); refine blk_far ?_ NB232_239.out _; (with_reducible repeat (first | refine blk_drewN ?_ _ | refine blk_drew ?_ | refine blk_alloc ?_ _)); refine blk_far ?_ NB232_239.out _; (with_reducible repeat (first | refine blk_drewN ?_ _ | refine blk_drew ?_ | refine blk_alloc ?_ _)); refine blk_far ?_ NB232_239.out _; (with_reducible repeat (first | refine blk_drewN ?_ _ | refine blk_drew ?_ | refine blk_alloc ?_ _)); refine blk_far ?_ NB232_239.out _; (with_reducible repeat (first | refine blk_drewN ?_ _ | refine blk_drew ?_ | refine blk_alloc ?_ _)); exact BK232.out) hb); have n2_ := Aside0.mk (blk_below (g := gb239) (o := .cells #[.int .i64 ((rd_T33 l0_4 x29_1).f0), .string ((rd_T33 l0_4 x29_1).f1), .int .i64 ((rd_T33 l0_4 x29_1).f2), .slice A238_3 ((rd_T33 l0_4 x29_1).f3).length c238_3, .slice A238_4 ((rd_T33 l0_4 x29_1).f4).length c238_4] 33 (0, 0)) (by (with_reducible repeat (first | refine blk_drewN ?_ _ | refine blk_drew ?_ | refine blk_alloc ?_ _)); refine blk_put (cs := #[.int .i64 ((rd_T33 l0_4 x29_1).f0), .string ((rd_T33 l0_4 x29_1).f1), .int .i64 ((rd_T33 l0_4 x29_1).f2), .slice A238_3 ((rd_T33 l0_4 x29_1).f3).length c238_3, .slice none 0 0]) ?_ 4 _ rfl; (with_reducible repeat (first | refine blk_drewN ?_ _ | refine blk_drew ?_ | refine blk_alloc ?_ _)); refine blk_put (cs := #[.int .i64 ((rd_T33 l0_4 x29_1).f0), .string ((rd_T33 l0_4 x29_1).f1), .int .i64 ((rd_T33 l0_4 x29_1).f2), .slice none 0 0, .slice none 0 0]) ?_ 3 _ rfl; (with_reducible repeat (first | refine blk_drewN ?_ _ | refine blk_drew ?_ | refine blk_alloc ?_ _)); refine blk_put (cs := #[.int .i64 ((rd_T33 l0_4 x29_1).f0), .string ((rd_T33 l0_4 x29_1).f1), .int .i64 0, .slice none 0 0, .slice none 0 0]) ?_ 2 _ rfl; (with_reducible repeat (first | refine blk_drewN ?_ _ | refine blk_drew ?_ | refine blk_alloc ?_ _)); refine blk_put (cs := #[.int .i64 ((rd_T33 l0_4 x29_1).f0), .string (⟨#[]⟩ : ByteArray), .int .i64 0, .slice none 0 0, .slice none 0 0]) ?_ 1 _ rfl; (with_reducible repeat (first | refine blk_drewN ?_ _ | refine blk_drew ?_ | refine blk_alloc ?_ _)); refine blk_put (cs := #[.int .i64 0, .string (⟨#[]⟩ : ByteArray), .int .i64 0, .slice none 0 0, .slice none 0 0]) ?_ 0 _ rfl; (with_reducible repeat (first | refine blk_drewN ?_ _ | refine blk_drew ?_ | refine blk_alloc ?_ _)); exact BK239.out) hb); have n3_ := Aside0.mk (below_step (by repeat (first | (with_reducible first | exact HB.out | apply below_alloc | apply pw_below_drewN | apply below_drew1 | refine below_set ?_ GE232.out | refine below_set ?_ GE239.out) | exact HB.out)) hb); clear HO_3; clear BK232; clear BK239; clear HB; have HO_3 := n0_; have BK232 := n1_; have BK239 := n2_; have HB := n3_; clear n0_ n1_ n2_ n3_; (try clear hb); (try clear hb2); (try clear hk); (try clear hi); have hcz42_0 : w41.cell? ⟨gb232, 0, none⟩ = some (.int .i64 a0_0) := (blk_cell BK232.out 0).trans rfl; have hcz42_1 : w41.cell? ⟨gb232, 1, none⟩ = some (.string a0_1) := (blk_cell BK232.out 1).trans rfl; have hcz42_2 : w41.cell? ⟨gb232, 2, none⟩ = some (.int .i64 a0_2) := (blk_cell BK232.out 2).trans rfl; have hcz42_3 : w41.cell? ⟨gb232, 3, none⟩ = some (.slice A0_3 l0_3.length c0_3) := (blk_cell BK232.out 3).trans rfl; have hcz42_4 : w41.cell? ⟨gb232, 4, none⟩ = some (.slice (some ad238) l0_4.length c0_4) := (blk_cell BK232.out 4).trans rfl; have hfz42_0 := blk_frozen BK232.out 0; have hfz42_1 := blk_frozen BK232.out 1; have hfz42_2 := blk_frozen BK232.out 2; have hfz42_3 := blk_frozen BK232.out 3; have hfz42_4 := blk_frozen BK232.out 4) | ((with_reducible refine gate_builtin (b := .append) (xs := #[.tmp 47, .tmp 49]) rfl ?_); at_builtin; refine Kd.R_append Kd.string (w0 := w) w.heap.size rfl (.tmp 47) (.tmp 49) 25 9 (.string ⟨#[]⟩) 16 rfl Tryd.underlying25 info9 rfl (by decide) (by omega) u3 x3_1 t240 [.string t240] (fun _ => True) (fun _ => False) rfl rfl ?aP (fun _ hk => hk.elim) ?aF ?aO ?aB ?aS ?aL ?_; (case aP => exact rfl); (case aB => exact (by repeat (first | (with_reducible first | exact HB.out | apply below_alloc | apply pw_below_drewN | apply below_drew1 | refine below_set ?_ GE232.out | refine below_set ?_ GE239.out) | exact HB.out))); (case aF => exact (fun _ _ => trivial)); (case aO => exact (by (with_reducible repeat (first | apply Kd.R_alloc | apply Kd.R_drewN | apply Kd.R_drew)); exact HO_3.out)); (case aS => exact (below_size (by repeat (first | (with_reducible first | exact HB.out | apply below_alloc | apply pw_below_drewN | apply below_drew1 | refine below_set ?_ GE232.out | refine below_set ?_ GE239.out) | exact HB.out)))); (case aL => have := LMc37.out; omega); intro v246 w43 ho hb hg hat; rw [← Ny245.out] at ho; have n0_ := Aside0.mk (blk_grown (g := gb232) (o := .cells #[.int .i64 a0_0, .string a0_1, .int .i64 a0_2, .slice A0_3 l0_3.length c0_3, .slice (some ad238) l0_4.length c0_4] 33 (0, 0)) (by (with_reducible repeat (first | refine blk_drewN ?_ _ | refine blk_drew ?_ | refine blk_alloc ?_ _)); exact BK232.out) hg (Kd.R_ne HO_3.out BK232.out (by decide))); have n1_ := Aside0.mk (blk_grown (g := gb239) (o := .cells #[.int .i64 ((rd_T33 l0_4 x29_1).f0), .string ((rd_T33 l0_4 x29_1).f1), .int .i64 ((rd_T33 l0_4 x29_1).f2), .slice A238_3 ((rd_T33 l0_4 x29_1).f3).length c238_3, .slice A238_4 ((rd_T33 l0_4 x29_1).f4).length c238_4] 33 (0, 0)) (by (with_reducible repeat (first | refine blk_drewN ?_ _ | refine blk_drew ?_ | refine blk_alloc ?_ _)); exact BK239.out) hg (Kd.R_ne HO_3.out BK239.out (by decide))); have n2_ := Aside0.mk (hb); have n3_ := Aside0.mk (ho); clear BK232; clear BK239; clear HB; clear HO_3; have BK232 := n0_; have BK239 := n1_; have HB := n2_; have HO247 := n3_; clear n0_ n1_ n2_ n3_; clear ho hb hg hat))
                      go_roundg k1
                      case measure => have := HK1.out; omega
                      case rel => exact ⟨(y245), (wrap64 (x29_1 + 1)), (by first | rfl | (simp; done) | (simp [*]; done)), H', ⟨by have := HK1.out; omega⟩, ⟨by (with_reducible repeat (first | apply Kd.R_alloc | apply Kd.R_drewN | apply Kd.R_drew)); exact HO247.out⟩, ⟨by (with_reducible repeat (first | refine blk_drewN ?_ _ | refine blk_drew ?_ | refine blk_alloc ?_ _)); exact BK232.out⟩, ⟨by repeat (first | (with_reducible first | exact HB.out | apply below_alloc | apply pw_below_drewN | apply below_drew1 | refine below_set ?_ GE232.out | refine below_set ?_ GE239.out) | exact HB.out)⟩⟩
                    · rw [if_neg c37] at H
                      exact absurd H (by simp)
                · rw [if_neg c24] at H
                  exact absurd H (by simp)
              · rw [if_neg c23] at H
                exact absurd H (by simp)
            · rw [if_neg c22] at H
              have c22b0 : decide (x29_1 < (l0_4.length : Int)) = false := decide_eq_false c22
              clear c22
              replace H := Option.bind_eq_some_iff.mp H
              obtain ⟨t248, A440, H⟩ := H
              replace H : (if a0_0 = 5 then (if 1 + t248.size ≤ 9223372036854775807 then (if ((⟨#[123]⟩ : ByteArray) ++ t248).size + 1 ≤ 9223372036854775807 then (some (((⟨#[123]⟩ : ByteArray) ++ t248) ++ (⟨#[125]⟩ : ByteArray))) else (none)) else (none)) else (if 1 + t248.size ≤ 9223372036854775807 then (if ((⟨#[91]⟩ : ByteArray) ++ t248).size + 1 ≤ 9223372036854775807 then (some (((⟨#[91]⟩ : ByteArray) ++ t248) ++ (⟨#[93]⟩ : ByteArray))) else (none)) else (none))) = some r := H
              have A44 := Aside0.mk A440
              clear A440
              by_cases c45 : a0_0 = 5
              · rw [if_pos c45] at H
                have c45b0 : (a0_0 == 5) = true := beq_iff_eq.mpr c45
                have c45b1 : (a0_0 != 5) = false := bne_eq_false_iff_eq.mpr c45
                clear c45
                by_cases c46 : 1 + t248.size ≤ 9223372036854775807
                · rw [if_pos c46] at H
                  have c46b0 := eq_true c46
                  have c46b1 : decide (1 + t248.size ≤ 9223372036854775807) = true := decide_eq_true c46
                  try have c46b2 : (9223372036854775807 < 1 + t248.size) = False := eq_false (Nat.not_lt.2 c46)
                  by_cases c47 : ((⟨#[123]⟩ : ByteArray) ++ t248).size + 1 ≤ 9223372036854775807
                  · rw [if_pos c47] at H
                    have c47b0 := eq_true c47
                    have c47b1 : decide (((⟨#[123]⟩ : ByteArray) ++ t248).size + 1 ≤ 9223372036854775807) = true := decide_eq_true c47
                    try have c47b2 : (9223372036854775807 < ((⟨#[123]⟩ : ByteArray) ++ t248).size + 1) = False := eq_false (Nat.not_lt.2 c47)
                    have c47z0 : ((⟨#[123]⟩ : ByteArray) ++ t248).size < 9223372036854775807 := by have h_ := c47; simp only [ByteArray.size_append] at h_ ⊢; first | omega | (simp only [ByteArray.size] at h_ ⊢; simp at h_ ⊢; omega)
                    have c47z0a := eq_true c47z0
                    have c47z0b := decide_eq_true c47z0
                    have c47z0c : (9223372036854775807 ≤ ((⟨#[123]⟩ : ByteArray) ++ t248).size) = False := eq_false (by omega)
                    have c47z1 : 1 + t248.size < 9223372036854775807 := by have h_ := c47; simp only [ByteArray.size_append] at h_ ⊢; first | omega | (simp only [ByteArray.size] at h_ ⊢; simp at h_ ⊢; omega)
                    have c47z1a := eq_true c47z1
                    have c47z1b := decide_eq_true c47z1
                    have c47z1c : (9223372036854775807 ≤ 1 + t248.size) = False := eq_false (by omega)
                    have c47z2 : 1 + t248.size + 1 ≤ 9223372036854775807 := by have h_ := c47; simp only [ByteArray.size_append] at h_ ⊢; first | omega | (simp only [ByteArray.size] at h_ ⊢; simp at h_ ⊢; omega)
                    have c47z2a := eq_true c47z2
                    have c47z2b := decide_eq_true c47z2
                    have c47z2c : (9223372036854775807 < 1 + t248.size + 1) = False := eq_false (by omega)
                    obtain rfl := Option.some.inj H
                    obtain ⟨Ao48, co48, eo48⟩ := Kd.R_slice HO_3.out
                    subst eo48
                    go_wp2_with (first | ((with_reducible refine gate_callee (f := 45) rfl ?_); refine goesL_ (some 53) rfl rfl Tryd.func45 (by kernel_rfl) rfl #[.slice Ao48 x3_1.length co48, .string (⟨#[44]⟩ : ByteArray)] rfl (by (try simp only [List.map_toArray, List.map_cons, List.map_nil]); first | done | rfl | (simp only [List.length_drop, List.length_take]; rfl)) ?_; (with_reducible refine (strings_Join.calls _ _ x3_1 (⟨#[44]⟩ : ByteArray) t248 _ ?side1 ?side2 A44.out).mono ?_); (case side1 => repeat (first | exact (Kd.R_reads' HO_3.out).2.2 | (with_reducible refine Kd.C_alloc ?_ _) | (with_reducible refine Kd.C_drewN ?_ _) | (with_reducible refine Kd.C_drew ?_))); (case side2 => exact (Kd.R_reads' HO_3.out).2.1); rintro e w49 ⟨rfl, hb⟩; refine ⟨_, rfl, ?_⟩; have n0_ := Aside0.mk (Kd.R_below (by (with_reducible repeat (first | apply Kd.R_alloc | apply Kd.R_drewN | apply Kd.R_drew)); exact HO_3.out) hb); have n1_ := Aside0.mk (blk_below (g := gb232) (o := .cells #[.int .i64 a0_0, .string a0_1, .int .i64 a0_2, .slice A0_3 l0_3.length c0_3, .slice A0_4 l0_4.length c0_4] 33 (0, 0)) (by (with_reducible repeat (first | refine blk_drewN ?_ _ | refine blk_drew ?_ | refine blk_alloc ?_ _)); exact BK232.out) hb); have n2_ := Aside0.mk (below_step (by repeat (first | (with_reducible first | exact HB.out | apply below_alloc | apply pw_below_drewN | apply below_drew1 | refine below_set ?_ GE232.out) | exact HB.out)) hb); clear HO_3; clear BK232; clear HB; have HO_3 := n0_; have BK232 := n1_; have HB := n2_; clear n0_ n1_ n2_; (try clear hb); (try clear hb2); (try clear hk); (try clear hi); have hcz50_0 : w49.cell? ⟨gb232, 0, none⟩ = some (.int .i64 a0_0) := (blk_cell BK232.out 0).trans rfl; have hcz50_1 : w49.cell? ⟨gb232, 1, none⟩ = some (.string a0_1) := (blk_cell BK232.out 1).trans rfl; have hcz50_2 : w49.cell? ⟨gb232, 2, none⟩ = some (.int .i64 a0_2) := (blk_cell BK232.out 2).trans rfl; have hcz50_3 : w49.cell? ⟨gb232, 3, none⟩ = some (.slice A0_3 l0_3.length c0_3) := (blk_cell BK232.out 3).trans rfl; have hcz50_4 : w49.cell? ⟨gb232, 4, none⟩ = some (.slice A0_4 l0_4.length c0_4) := (blk_cell BK232.out 4).trans rfl; have hfz50_0 := blk_frozen BK232.out 0; have hfz50_1 := blk_frozen BK232.out 1; have hfz50_2 := blk_frozen BK232.out 2; have hfz50_3 := blk_frozen BK232.out 3; have hfz50_4 := blk_frozen BK232.out 4))
                    go_ret
                    exact ⟨by first | rfl | (simp [errW_none, errW_some] <;> rfl) | (simp [*, errW_none, errW_some] <;> rfl), by repeat (first | (with_reducible first | exact HB.out | apply below_alloc | apply pw_below_drewN | apply below_drew1 | refine below_set ?_ GE232.out) | exact HB.out)⟩
                  · rw [if_neg c47] at H
                    exact absurd H (by simp)
                · rw [if_neg c46] at H
                  exact absurd H (by simp)
              · rw [if_neg c45] at H
                have c45b0 : (a0_0 == 5) = false := beq_eq_false_iff_ne.mpr c45
                have c45b1 : (a0_0 != 5) = true := bne_iff_ne.mpr c45
                by_cases c51 : 1 + t248.size ≤ 9223372036854775807
                · rw [if_pos c51] at H
                  have c51b0 := eq_true c51
                  have c51b1 : decide (1 + t248.size ≤ 9223372036854775807) = true := decide_eq_true c51
                  try have c51b2 : (9223372036854775807 < 1 + t248.size) = False := eq_false (Nat.not_lt.2 c51)
                  by_cases c52 : ((⟨#[91]⟩ : ByteArray) ++ t248).size + 1 ≤ 9223372036854775807
                  · rw [if_pos c52] at H
                    have c52b0 := eq_true c52
                    have c52b1 : decide (((⟨#[91]⟩ : ByteArray) ++ t248).size + 1 ≤ 9223372036854775807) = true := decide_eq_true c52
                    try have c52b2 : (9223372036854775807 < ((⟨#[91]⟩ : ByteArray) ++ t248).size + 1) = False := eq_false (Nat.not_lt.2 c52)
                    have c52z0 : ((⟨#[91]⟩ : ByteArray) ++ t248).size < 9223372036854775807 := by have h_ := c52; simp only [ByteArray.size_append] at h_ ⊢; first | omega | (simp only [ByteArray.size] at h_ ⊢; simp at h_ ⊢; omega)
                    have c52z0a := eq_true c52z0
                    have c52z0b := decide_eq_true c52z0
                    have c52z0c : (9223372036854775807 ≤ ((⟨#[91]⟩ : ByteArray) ++ t248).size) = False := eq_false (by omega)
                    have c52z1 : 1 + t248.size < 9223372036854775807 := by have h_ := c52; simp only [ByteArray.size_append] at h_ ⊢; first | omega | (simp only [ByteArray.size] at h_ ⊢; simp at h_ ⊢; omega)
                    have c52z1a := eq_true c52z1
                    have c52z1b := decide_eq_true c52z1
                    have c52z1c : (9223372036854775807 ≤ 1 + t248.size) = False := eq_false (by omega)
                    have c52z2 : 1 + t248.size + 1 ≤ 9223372036854775807 := by have h_ := c52; simp only [ByteArray.size_append] at h_ ⊢; first | omega | (simp only [ByteArray.size] at h_ ⊢; simp at h_ ⊢; omega)
                    have c52z2a := eq_true c52z2
                    have c52z2b := decide_eq_true c52z2
                    have c52z2c : (9223372036854775807 < 1 + t248.size + 1) = False := eq_false (by omega)
                    obtain rfl := Option.some.inj H
                    obtain ⟨Ao53, co53, eo53⟩ := Kd.R_slice HO_3.out
                    subst eo53
                    go_wp2_with (first | ((with_reducible refine gate_callee (f := 45) rfl ?_); refine goesL_ (some 53) rfl rfl Tryd.func45 (by kernel_rfl) rfl #[.slice Ao53 x3_1.length co53, .string (⟨#[44]⟩ : ByteArray)] rfl (by (try simp only [List.map_toArray, List.map_cons, List.map_nil]); first | done | rfl | (simp only [List.length_drop, List.length_take]; rfl)) ?_; (with_reducible refine (strings_Join.calls _ _ x3_1 (⟨#[44]⟩ : ByteArray) t248 _ ?side1 ?side2 A44.out).mono ?_); (case side1 => repeat (first | exact (Kd.R_reads' HO_3.out).2.2 | (with_reducible refine Kd.C_alloc ?_ _) | (with_reducible refine Kd.C_drewN ?_ _) | (with_reducible refine Kd.C_drew ?_))); (case side2 => exact (Kd.R_reads' HO_3.out).2.1); rintro e w54 ⟨rfl, hb⟩; refine ⟨_, rfl, ?_⟩; have n0_ := Aside0.mk (Kd.R_below (by (with_reducible repeat (first | apply Kd.R_alloc | apply Kd.R_drewN | apply Kd.R_drew)); exact HO_3.out) hb); have n1_ := Aside0.mk (blk_below (g := gb232) (o := .cells #[.int .i64 a0_0, .string a0_1, .int .i64 a0_2, .slice A0_3 l0_3.length c0_3, .slice A0_4 l0_4.length c0_4] 33 (0, 0)) (by (with_reducible repeat (first | refine blk_drewN ?_ _ | refine blk_drew ?_ | refine blk_alloc ?_ _)); exact BK232.out) hb); have n2_ := Aside0.mk (below_step (by repeat (first | (with_reducible first | exact HB.out | apply below_alloc | apply pw_below_drewN | apply below_drew1 | refine below_set ?_ GE232.out) | exact HB.out)) hb); clear HO_3; clear BK232; clear HB; have HO_3 := n0_; have BK232 := n1_; have HB := n2_; clear n0_ n1_ n2_; (try clear hb); (try clear hb2); (try clear hk); (try clear hi); have hcz55_0 : w54.cell? ⟨gb232, 0, none⟩ = some (.int .i64 a0_0) := (blk_cell BK232.out 0).trans rfl; have hcz55_1 : w54.cell? ⟨gb232, 1, none⟩ = some (.string a0_1) := (blk_cell BK232.out 1).trans rfl; have hcz55_2 : w54.cell? ⟨gb232, 2, none⟩ = some (.int .i64 a0_2) := (blk_cell BK232.out 2).trans rfl; have hcz55_3 : w54.cell? ⟨gb232, 3, none⟩ = some (.slice A0_3 l0_3.length c0_3) := (blk_cell BK232.out 3).trans rfl; have hcz55_4 : w54.cell? ⟨gb232, 4, none⟩ = some (.slice A0_4 l0_4.length c0_4) := (blk_cell BK232.out 4).trans rfl; have hfz55_0 := blk_frozen BK232.out 0; have hfz55_1 := blk_frozen BK232.out 1; have hfz55_2 := blk_frozen BK232.out 2; have hfz55_3 := blk_frozen BK232.out 3; have hfz55_4 := blk_frozen BK232.out 4))
                    go_ret
                    exact ⟨by first | rfl | (simp [errW_none, errW_some] <;> rfl) | (simp [*, errW_none, errW_some] <;> rfl), by repeat (first | (with_reducible first | exact HB.out | apply below_alloc | apply pw_below_drewN | apply below_drew1 | refine below_set ?_ GE232.out) | exact HB.out)⟩
                  · rw [if_neg c52] at H
                    exact absurd H (by simp)
                · rw [if_neg c51] at H
                  exact absurd H (by simp)

end Go.Proofs.YtchhognpijobcaaDoor.G
