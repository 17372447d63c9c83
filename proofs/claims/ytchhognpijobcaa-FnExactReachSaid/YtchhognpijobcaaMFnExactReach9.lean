import Derived.Test.YtchhognpijobcaaMFnExactReach3
import Derived.Test.YtchhognpijobcaaMFnExactReach5
import Derived.Test.YtchhognpijobcaaMFnExactReach6
import Derived.Test.YtchhognpijobcaaMFnExactReach7
import Derived.Test.YtchhognpijobcaaMFnExactReach8
import Derived.Test.YtchhognpijobcaaMFnExactReach1
import Derived.Test.YtchhognpijobcaaMFnExactReach4
/- PValueOk -/
/-
  Values that are right, and their size; the laws of ValueOk and SizeOf.
-/
namespace Go.Proofs.Ytchhognpijobcaa.G
open Go.RowKit Go.Proofs.YtchhognpijobcaaW.PrintWords Go.Proofs.YtchhognpijobcaaW.PrintLast Go.Proofs.YtchhognpijobcaaW.PrintMore
set_option linter.unusedVariables false
set_option linter.unusedSimpArgs false
def emp (s : ByteArray) : Bool := decide (s.toList = [])
def textB (s : ByteArray) : Bool := allN s.size (fun i => inB (bt s i) 32 126) && decide ((s.size : Int) ≤ 100)
theorem wbt (s : ByteArray) (i : Int) : wrap64 (bt s i) = bt s i := w64 (by have := bt_lo s i; omega) (by have := bt_hi s i; omega)
theorem l4Text_ev (s : ByteArray) (h : s.size ≤ 9223372036854775807) : Ev (fun k => spec_l4Text.f k s) (textB s) := by
  unfold spec_l4Text.f textB
  refine loop_all (g := fun k i => spec_l4Text.l0 k s i) s.size _ _ ?_ ?_ ?_
  · intro i hi hok r hr
    refine Ev.step (fun k => by rw [spec_l4Text.l0]) ?_
    simp only [wsucc hi h, wbt, l1In_f, Option.bind_some]
    exact ev_if_pos (by omega) (ev_if_pos (by omega) (ev_if_pos hok hr))
  · intro i hi hok
    refine Ev.step (fun k => by rw [spec_l4Text.l0]) ?_
    simp only [wbt, l1In_f, Option.bind_some]
    exact ev_if_pos (by omega) (ev_if_pos (by omega) (ev_if_neg (by rw [hok]; exact Bool.false_ne_true) (Ev.now _)))
  · exact Ev.step (fun k => by rw [spec_l4Text.l0]) (ev_if_neg (by omega) (Ev.now _))
theorem l4Keys_ev (x : IVal) (h : wfStrs x.f3) : Ev (fun k => spec_l4Keys.f k x.f0 x.f1 x.f2 x.f3 x.f4) (namsB x.f3 && ((x.f3.length : Int) == (x.f4.length : Int))) := by
  unfold spec_l4Keys.f namsB
  refine loop_all (g := fun k i => spec_l4Keys.l0 k i x.f0 x.f1 x.f2 x.f3 x.f4) x.f3.length _ _ ?_ ?_ ?_
  · intro i hi hok r hr
    refine Ev.step (fun k => by rw [spec_l4Keys.l0]) ?_
    simp only [wsucc hi h.1]
    refine ev_if_pos (by omega) (ev_if_pos (by omega) (Ev.bind (specNameOk_ev _ (wfStrs_at h hi)) (ev_if_pos (namOk_name hok) (ev_if (fun c => ?_) (fun c => hr)))))
    simp only [wpred (by omega : 0 < i) hi h.1]
    exact ev_if_pos (by omega) (ev_if_pos (by omega) (ev_if_pos (namOk_less hok (by omega)) hr))
  · intro i hi hok
    refine Ev.step (fun k => by rw [spec_l4Keys.l0]) ?_
    refine ev_if_pos (by omega) (ev_if_pos (by omega) (Ev.bind (specNameOk_ev _ (wfStrs_at h hi)) (ev_if (fun c0 => ?_) (fun _ => Ev.now _))))
    obtain ⟨h0, hl⟩ := namOk_false hok c0
    simp only [wpred h0 hi h.1]
    exact ev_if_pos (by omega) (ev_if_pos (by omega) (ev_if_pos (by omega) (ev_if_neg (by rw [hl]; simp) (Ev.now _))))
  · exact Ev.step (fun k => by rw [spec_l4Keys.l0]) (ev_if_neg (by omega) (Ev.now _))
/-- A shape that is right, by kinds. -/
def shB (x : IVal) : Bool :=
  if x.f0 = 1 then textB x.f1 && (x.f2 == 0 && ((x.f3.length : Int) == 0 && (x.f4.length : Int) == 0))
  else if x.f0 = 2 then emp x.f1 && ((x.f3.length : Int) == 0 && (x.f4.length : Int) == 0)
  else if x.f0 = 3 then emp x.f1 && (inB x.f2 0 1 && ((x.f3.length : Int) == 0 && (x.f4.length : Int) == 0))
  else if x.f0 = 4 then emp x.f1 && (x.f2 == 0 && (x.f3.length : Int) == 0)
  else if x.f0 = 5 then emp x.f1 && (x.f2 == 0 && (namsB x.f3 && (x.f3.length : Int) == (x.f4.length : Int)))
  else false
theorem implShapeOk_ev (x : IVal) (h1 : x.f1.size ≤ 9223372036854775807) (h3 : wfStrs x.f3) :
    Ev (fun k => impl_shapeOk.f k x.f0 x.f1 x.f2 x.f3 x.f4) (shB x && decide (x.f0 ≠ 5 ∨ (x.f3.length : Int) ≤ 300)) := by
  unfold impl_shapeOk.f shB
  by_cases c1 : x.f0 = 1
  · rw [if_pos c1, decide_eq_true (by omega : x.f0 ≠ 5 ∨ (x.f3.length : Int) ≤ 300), Bool.and_true, textB, Bool.and_assoc]
    refine ev_if_pos c1 ?_
    refine loop_all (g := fun k i => impl_shapeOk.l0 k (x.f2 == 0) ((x.f3.length : Int) == 0) ((x.f4.length : Int) == 0) x.f1.size i x.f0 x.f1 x.f2 x.f3 x.f4) x.f1.size _ _ ?_ ?_ ?_
    · intro i hi hok r hr
      refine Ev.step (fun k => by rw [impl_shapeOk.l0]) ?_
      simp only [wsucc hi h1, wbt, within_f, Option.bind_some]
      exact ev_if_pos (by omega) (ev_if_pos (by omega) (ev_if_pos (by omega) (ev_if_pos hok hr)))
    · intro i hi hok
      refine Ev.step (fun k => by rw [impl_shapeOk.l0]) ?_
      simp only [wbt, within_f, Option.bind_some]
      exact ev_if_pos (by omega) (ev_if_pos (by omega) (ev_if_pos (by omega) (ev_if_neg (by rw [hok]; exact Bool.false_ne_true) (Ev.now _))))
    · refine Ev.step (fun k => by rw [impl_shapeOk.l0]) (ev_if_neg (by omega) (ev_now ?_))
      generalize (x.f3.length : Int) = n3
      generalize (x.f4.length : Int) = n4
      cases (x.f2 == 0) <;> cases (n3 == 0) <;> by_cases c : (x.f1.size : Int) ≤ 100 <;> simp [c]
  · by_cases c2 : x.f0 = 2
    · rw [if_neg c1, if_pos c2, decide_eq_true (by omega : x.f0 ≠ 5 ∨ (x.f3.length : Int) ≤ 300), Bool.and_true]
      refine ev_if_neg c1 (ev_if_pos c2 (ev_now ?_))
      unfold emp
      generalize (x.f3.length : Int) = n3
      generalize (x.f4.length : Int) = n4
      by_cases d1 : x.f1.toList = [] <;> by_cases d2 : n3 = 0 <;> simp [d1, d2]
    · by_cases c3 : x.f0 = 3
      · rw [if_neg c1, if_neg c2, if_pos c3, decide_eq_true (by omega : x.f0 ≠ 5 ∨ (x.f3.length : Int) ≤ 300), Bool.and_true]
        simp only [within_f, Option.bind_some]
        refine ev_if_neg c1 (ev_if_neg c2 (ev_if_pos c3 (ev_now ?_)))
        unfold emp
        generalize (x.f3.length : Int) = n3
        generalize (x.f4.length : Int) = n4
        by_cases d1 : x.f1.toList = [] <;> by_cases d2 : n3 = 0 <;> cases inB x.f2 0 1 <;> simp [d1, d2]
      · by_cases c4 : x.f0 = 4
        · rw [if_neg c1, if_neg c2, if_neg c3, if_pos c4, decide_eq_true (by omega : x.f0 ≠ 5 ∨ (x.f3.length : Int) ≤ 300), Bool.and_true]
          refine ev_if_neg c1 (ev_if_neg c2 (ev_if_neg c3 (ev_if_pos c4 (ev_now ?_))))
          unfold emp
          generalize (x.f3.length : Int) = n3
          generalize (x.f4.length : Int) = n4
          by_cases d1 : x.f1.toList = [] <;> by_cases d2 : n3 = 0 <;> by_cases d3 : x.f2 = 0 <;> simp [d1, d2, d3]
        · by_cases c5 : x.f0 = 5
          · rw [if_neg c1, if_neg c2, if_neg c3, if_neg c4, if_pos c5]
            refine ev_if_neg c1 (ev_if_neg c2 (ev_if_neg c3 (ev_if_neg c4 (ev_if_pos c5 (Ev.bind (namesOk_ev x.f3 300 h3) (ev_now ?_))))))
            have e : decide (x.f0 ≠ 5 ∨ (x.f3.length : Int) ≤ 300) = decide ((x.f3.length : Int) ≤ 300) := by rw [decide_eq_decide]; omega
            rw [e]
            clear e
            unfold emp
            generalize (x.f3.length : Int) = n3
            generalize (x.f4.length : Int) = n4
            by_cases d1 : x.f1.toList = [] <;> by_cases d2 : n3 = n4 <;> by_cases d3 : x.f2 = 0 <;> cases namsB x.f3 <;> by_cases d4 : n3 ≤ 300 <;> (try subst d2) <;> simp [*]
          · rw [if_neg c1, if_neg c2, if_neg c3, if_neg c4, if_neg c5, Bool.false_and]
            exact ev_if_neg c1 (ev_if_neg c2 (ev_if_neg c3 (ev_if_neg c4 (ev_if_neg c5 (Ev.now _)))))
/-- Sizes of kids, added up; 0 where one is not right, or it is too much. -/
def sumL (m : IVal → Nat) : Nat → List IVal → Nat
  | n, [] => n
  | n, y :: ys => if m y = 0 ∨ n + m y > 300 then 0 else sumL m (n + m y) ys
theorem sumL_bad {m : IVal → Nat} {n : Nat} {y : IVal} {ys : List IVal} (h : m y = 0 ∨ n + m y > 300) : sumL m n (y :: ys) = 0 := by rw [sumL, if_pos h]
theorem sumL_good {m : IVal → Nat} {n : Nat} {y : IVal} {ys : List IVal} (h : ¬ (m y = 0 ∨ n + m y > 300)) : sumL m n (y :: ys) = sumL m (n + m y) ys := by rw [sumL, if_neg h]
def lookN : Nat → IVal → Nat
  | 0, _ => 0
  | r + 1, x => if shB x = true then sumL (lookN r) 1 x.f4 else 0
theorem sumL_bounds (m : IVal → Nat) : ∀ (ys : List IVal) (n : Nat), n ≤ 300 → sumL m n ys = 0 ∨ (n + ys.length ≤ sumL m n ys ∧ sumL m n ys ≤ 300)
  | [], n, h => .inr ⟨by simp [sumL], by simpa [sumL] using h⟩
  | y :: ys, n, h => by
    rw [sumL]
    by_cases c : m y = 0 ∨ n + m y > 300
    · rw [if_pos c]; exact .inl rfl
    · rw [if_neg c]
      rcases sumL_bounds m ys (n + m y) (by omega) with h1 | ⟨h1, h2⟩
      · exact .inl h1
      · refine .inr ⟨?_, h2⟩
        rw [List.length_cons]; omega
theorem lookN_le (r : Nat) (x : IVal) : lookN r x ≤ 300 := by
  cases r with
  | zero => simp [lookN]
  | succ r =>
    rw [lookN]
    split
    · rcases sumL_bounds (lookN r) x.f4 1 (by omega) with h | h <;> omega
    · omega
theorem l4Look_j1 (x : IVal) (n : Nat) (h1 : x.f1.size ≤ 9223372036854775807) (h3 : wfStrs x.f3) (b : Bool) (hb : b = ((x.f3.length : Int) == 0 && (x.f4.length : Int) == 0)) :
    Ev (fun k => spec_l4Look.j1 k n b x.f0 x.f1 x.f2 x.f3 x.f4) (if shB x = true then (n : Int) else 0) := by
  subst hb
  refine Ev.step (fun k => by rw [spec_l4Look.j1]) ?_
  unfold shB
  by_cases c1 : x.f0 = 1
  · refine ev_if_pos c1 ?_
    rw [if_pos c1]
    cases hb : ((x.f3.length : Int) == 0 && (x.f4.length : Int) == 0) with
    | false => exact ev_if_neg Bool.false_ne_true (ev_some (by simp))
    | true =>
      refine ev_if_pos rfl ?_
      by_cases c : x.f2 = 0
      · refine ev_if_pos c (Ev.bind (l4Text_ev _ h1) (ev_now ?_))
        rw [c]; cases textB x.f1 <;> simp
      · refine ev_if_neg c (ev_some ?_)
        simp [c]
  · by_cases c2 : x.f0 = 2
    · refine ev_if_neg c1 (ev_if_pos c2 (ev_now ?_))
      rw [if_neg c1, if_pos c2]
      unfold emp
      generalize (x.f3.length : Int) = n3
      generalize (x.f4.length : Int) = n4
      cases (n3 == 0 && n4 == 0) <;> by_cases d : x.f1.toList = [] <;> simp [d]
    · by_cases c3 : x.f0 = 3
      · refine ev_if_neg c1 (ev_if_neg c2 (ev_if_pos c3 (ev_now ?_)))
        simp only [l1In_f, Option.bind_some]
        rw [if_neg c1, if_neg c2, if_pos c3]
        unfold emp
        generalize (x.f3.length : Int) = n3
        generalize (x.f4.length : Int) = n4
        cases (n3 == 0 && n4 == 0) <;> by_cases d : x.f1.toList = [] <;> cases inB x.f2 0 1 <;> simp [d]
      · by_cases c4 : x.f0 = 4
        · refine ev_if_neg c1 (ev_if_neg c2 (ev_if_neg c3 (ev_if_pos c4 (ev_now ?_))))
          rw [if_neg c1, if_neg c2, if_neg c3, if_pos c4]
          unfold emp
          generalize (x.f3.length : Int) = n3
          generalize (x.f4.length : Int) = n4
          by_cases d : x.f1.toList = [] <;> by_cases d2 : n3 = 0 <;> by_cases d3 : x.f2 = 0 <;> simp [d, d2, d3]
        · by_cases c5 : x.f0 = 5
          · refine ev_if_neg c1 (ev_if_neg c2 (ev_if_neg c3 (ev_if_neg c4 (ev_if_pos c5 (Ev.bind (l4Keys_ev x h3) (ev_now ?_))))))
            rw [if_neg c1, if_neg c2, if_neg c3, if_neg c4, if_pos c5]
            unfold emp
            generalize (x.f3.length : Int) = n3
            generalize (x.f4.length : Int) = n4
            cases (namsB x.f3 && (n3 == n4)) <;> by_cases d : x.f1.toList = [] <;> by_cases d3 : x.f2 = 0 <;> simp [d, d3]
          · refine ev_if_neg c1 (ev_if_neg c2 (ev_if_neg c3 (ev_if_neg c4 (ev_if_neg c5 (ev_some ?_)))))
            rw [if_neg c1, if_neg c2, if_neg c3, if_neg c4, if_neg c5]; simp
theorem smI_parts {n : Nat} {x : IVal} (h : SmI n x) : ∃ m, n = m + 1 ∧ x.f1.size ≤ 1048576 ∧ wfStrs x.f3 ∧ x.f4.length ≤ 1048576 ∧ ∀ y ∈ x.f4, SmI m y := by
  cases n with
  | zero => rw [SmI] at h; exact h.elim
  | succ m => rw [SmI] at h; exact ⟨m, rfl, h.2.1, wfStrs_of h.2.2.1, h.2.2.2.1, h.2.2.2.2⟩
theorem l4Look_ev : ∀ (r : Nat) (n : Nat) (x : IVal), r ≤ 1000 → SmI n x → Ev (fun k => spec_l4Look.f k x.f0 x.f1 x.f2 x.f3 x.f4 r) ((lookN r x : Nat) : Int)
  | 0, n, x, _, h => Ev.step (fun k => by rw [spec_l4Look.f]) (ev_if_pos (by omega) (ev_some (by simp [lookN])))
  | r + 1, n, x, hr, h => by
    obtain ⟨m, rfl, h1, h3, hl, hk⟩ := smI_parts h
    have hx := h
    have loop : ∀ (d i a : Nat), i + d = x.f4.length → 1 ≤ a → a ≤ 300 → Ev (fun k => spec_l4Look.l0 k ((r + 1 : Nat) : Int) a i x.f0 x.f1 x.f2 x.f3 x.f4) (if shB x = true then ((sumL (lookN r) a (x.f4.drop i) : Nat) : Int) else 0) := by
      intro d
      induction d with
      | zero =>
        intro i a hi ha ha2
        rw [List.drop_of_length_le (by omega), sumL]
        refine Ev.step (fun k => by rw [spec_l4Look.l0]) (ev_if_neg (by omega) ?_)
        exact ev_if (fun c => l4Look_j1 x a (by omega) h3 _ (by rw [beq_iff_eq.2 c, Bool.true_and])) (fun c => l4Look_j1 x a (by omega) h3 _ (by rw [beq_eq_false_iff_ne.2 c, Bool.false_and]))
      | succ d ih =>
        intro i a hid ha ha2
        have hi : i < x.f4.length := by omega
        have hle := lookN_le r x.f4[i]
        refine Ev.step (fun k => by rw [spec_l4Look.l0]) (ev_if_pos (by omega) (ev_if_pos (by omega) ?_))
        have hw : wrap64 (((r + 1 : Nat) : Int) - 1) = (r : Int) := by rw [w64 (by omega) (by omega)]; omega
        simp only [rdIV hi, hw, wsucc hi (by omega : x.f4.length ≤ 9223372036854775807)]
        refine Ev.bind (l4Look_ev r m x.f4[i] (by omega) (hk _ (List.getElem_mem hi))) ?_
        have hw2 : wrap64 ((a : Int) + (lookN r x.f4[i] : Nat)) = ((a + lookN r x.f4[i] : Nat) : Int) := by rw [w64 (by omega) (by omega)]; omega
        rw [hw2, List.drop_eq_getElem_cons hi]
        by_cases c : lookN r x.f4[i] = 0
        · rw [sumL_bad (.inl c)]
          exact ev_if_pos (by omega) (ev_some (by simp))
        · refine ev_if_neg (by omega) ?_
          by_cases c2 : a + lookN r x.f4[i] > 300
          · rw [sumL_bad (.inr c2)]
            exact ev_if_pos (by omega) (ev_some (by simp))
          · rw [sumL_good (by omega)]
            exact ev_if_neg (by omega) (ih (i + 1) (a + lookN r x.f4[i]) (by omega) (by omega) (by omega))
    refine Ev.step (fun k => by rw [spec_l4Look.f]) (ev_if_neg (by omega) ?_)
    refine ev_rw (loop x.f4.length 0 1 (by omega) (by omega) (by omega)) ?_
    rw [List.drop_zero, lookN]
    by_cases c : shB x = true <;> simp [c]
def bigN (n : Nat) : Int := if n = 0 then 301 else n
theorem measured_ev : ∀ (r : Nat) (n : Nat) (x : IVal), r ≤ 1000 → SmI n x → Ev (fun k => impl_measured.f k x.f0 x.f1 x.f2 x.f3 x.f4 r) (bigN (lookN r x))
  | 0, n, x, _, h => Ev.step (fun k => by rw [impl_measured.f]) (ev_if_pos (by omega) (Ev.step (fun k => by rw [impl_measured.j0]) (ev_if_pos rfl (ev_some (by simp [lookN, bigN])))))
  | r + 1, n, x, hr, h => by
    obtain ⟨m, rfl, h1, h3, hl, hk⟩ := smI_parts h
    have loop : ∀ (d i a : Nat), i + d = x.f4.length → 1 ≤ a → a ≤ 300 → Ev (fun k => impl_measured.l0 k ((r + 1 : Nat) : Int) a x.f4 x.f4.length i) (bigN (sumL (lookN r) a (x.f4.drop i))) := by
      intro d
      induction d with
      | zero =>
        intro i a hi ha ha2
        rw [List.drop_of_length_le (by omega), sumL]
        exact Ev.step (fun k => by rw [impl_measured.l0]) (ev_if_neg (by omega) (ev_some (by unfold bigN; rw [if_neg (by omega)])))
      | succ d ih =>
        intro i a hid ha ha2
        have hi : i < x.f4.length := by omega
        have hle := lookN_le r x.f4[i]
        refine Ev.step (fun k => by rw [impl_measured.l0]) (ev_if_pos (by omega) (ev_if_pos (by omega) (ev_if_pos (by omega) ?_)))
        have hw : wrap64 (((r + 1 : Nat) : Int) - 1) = (r : Int) := by rw [w64 (by omega) (by omega)]; omega
        simp only [rdIV hi, hw, wsucc hi (by omega : x.f4.length ≤ 9223372036854775807)]
        refine Ev.bind (measured_ev r m x.f4[i] (by omega) (hk _ (List.getElem_mem hi))) ?_
        rw [List.drop_eq_getElem_cons hi]
        by_cases c : lookN r x.f4[i] = 0
        · rw [sumL_bad (.inl c), show bigN (lookN r x.f4[i]) = 301 from if_pos c, w64 (by omega) (by omega)]
          exact ev_if_pos (by omega) (Ev.now _)
        · have hw2 : wrap64 ((a : Int) + bigN (lookN r x.f4[i])) = ((a + lookN r x.f4[i] : Nat) : Int) := by unfold bigN; rw [if_neg c, w64 (by omega) (by omega)]; omega
          rw [hw2]
          by_cases c2 : a + lookN r x.f4[i] > 300
          · rw [sumL_bad (.inr c2)]
            exact ev_if_pos (by omega) (Ev.now _)
          · rw [sumL_good (by omega)]
            exact ev_if_neg (by omega) (ih (i + 1) (a + lookN r x.f4[i]) (by omega) (by omega) (by omega))
    refine Ev.step (fun k => by rw [impl_measured.f]) (ev_if_neg (by omega) (Ev.bind (implShapeOk_ev x (by omega) h3) ?_))
    refine Ev.step (fun k => by rw [impl_measured.j0]) ?_
    rw [lookN]
    by_cases c : shB x = true
    · rw [if_pos c, c, Bool.true_and]
      by_cases c2 : x.f0 ≠ 5 ∨ (x.f3.length : Int) ≤ 300
      · rw [decide_eq_true c2]
        refine ev_if_neg (by simp) (ev_rw (loop x.f4.length 0 1 (by omega) (by omega) (by omega)) ?_)
        rw [List.drop_zero]
      · rw [decide_eq_false c2]
        refine ev_if_pos rfl (ev_some ?_)
        have e5 : x.f0 = 5 := by omega
        have hlen : x.f3.length = x.f4.length := by
          unfold shB at c
          rw [if_neg (by omega), if_neg (by omega), if_neg (by omega), if_neg (by omega), if_pos e5] at c
          simp only [Bool.and_eq_true, beq_iff_eq] at c
          omega
        rcases sumL_bounds (lookN r) x.f4 1 (by omega) with h0 | h0
        · rw [h0]; rfl
        · omega
    · rw [if_neg c, Bool.eq_false_iff.2 c, Bool.false_and]
      exact ev_if_pos rfl (Ev.now _)
end Go.Proofs.Ytchhognpijobcaa.G

/- G18 -/
-- Laid by wip/g/gprint.py out of the translation, by the kit's print program. Lean checks it.
namespace Go.Proofs.Ytchhognpijobcaa.G
open Go.RowKit Go.Proofs.YtchhognpijobcaaW.PrintWords Go.Proofs.YtchhognpijobcaaW.PrintLast Go.Proofs.YtchhognpijobcaaW.PrintMore
attribute [local go_sem] max2_int min2_int max_two min_two max_three min_three max_four min_four   -- for this text's walks alone
set_option linter.unusedVariables false
set_option linter.unusedSimpArgs false

/-! ### impl_ValueOk: function 18 -/
def impl_ValueOk.f (k : Nat) (a0_0 : Int) (a0_1 : ByteArray) (a0_2 : Int) (l0_3 : List ByteArray) (l0_4 : List (S30)) : Option (Bool) := (impl_measured.f k a0_0 a0_1 a0_2 l0_3 l0_4 6).bind fun t248 => (some (decide (t248 ≤ 300)))
set_option maxHeartbeats 8000000 in
set_option maxRecDepth 100000 in
theorem impl_ValueOk.calls (k : Nat) (a0_0 : Int) (a0_1 : ByteArray) (a0_2 : Int) (A0_3 : Option Addr) (c0_3 : Nat) (l0_3 : List ByteArray) (A0_4 : Option Addr) (c0_4 : Nat) (l0_4 : List (S30)) (r : Bool) (w : World) (hr0_3 : Kd.C Kd.string w A0_3 l0_3.length l0_3) (hc0_3 : l0_3.length ≤ c0_3) (hr0_4 : Kd.C k30 w A0_4 l0_4.length l0_4) (hc0_4 : l0_4.length ≤ c0_4) (h : impl_ValueOk.f k a0_0 a0_1 a0_2 l0_3 l0_4 = some r) :
    Calls Try.prog 18 #[.agg #[.int .i64 a0_0, .string a0_1, .int .i64 a0_2, .slice A0_3 l0_3.length c0_3, .slice A0_4 l0_4.length c0_4]] w fun e w' => e = .returned (.bool r) ∧ Below w.heap.size w w' := by
  have hu30 := Try.underlying30
  have HR0_3 := Aside0.mk hr0_3
  have HC0_3 := Aside0.mk hc0_3
  clear hr0_3 hc0_3
  have HR0_4 := Aside0.mk hr0_4
  have HC0_4 := Aside0.mk hc0_4
  clear hr0_4 hc0_4
  have HB := Aside0.mk (Below.refl w.heap.size w)
  have H : ((impl_measured.f k a0_0 a0_1 a0_2 l0_3 l0_4 6).bind fun t248 => (some (decide (t248 ≤ 300)))) = some r := h
  clear h
  replace H := Option.bind_eq_some_iff.mp H
  obtain ⟨t248, A20, H⟩ := H
  replace H : (some (decide (t248 ≤ 300))) = some r := H
  have A2 := Aside0.mk A20
  clear A20
  obtain rfl := Option.some.inj H
  go_enter Try.func18, Try.ntmps18
  go_wp2_with (first | ((with_reducible refine gate_dst (N := 1) rfl ?_); refine box_event ?hg (N := 1) ?hd (cs := #[.int .i64 a0_0, .string a0_1, .int .i64 a0_2, .slice A0_3 l0_3.length c0_3, .slice A0_4 l0_4.length c0_4]) (t := 30) ?hr ?_; (case hd => rfl); (case hg => rfl); (case hr => first | (go_simp; done) | (go_simp; rfl)); intro gb247 hg w3 hbox hb; have n0_ := Aside0.mk (below_step (by repeat (first | (with_reducible first | exact HB.out | apply below_alloc | apply pw_below_drewN | apply below_drew1) | exact HB.out)) hb); have n1_ := Aside0.mk (hbox); have n2_ := Aside0.mk ((by rw [hg]; exact (below_size (by repeat (first | (with_reducible first | exact HB.out | apply below_alloc | apply pw_below_drewN | apply below_drew1) | exact HB.out))) : w.heap.size ≤ gb247)); have n3_ := Aside0.mk ((by rw [hg]; exact (below_size (by repeat (first | (with_reducible first | exact HB.out | apply below_alloc | apply pw_below_drewN | apply below_drew1) | exact HB.out))) : w.heap.size ≤ gb247)); clear HB; have HB := n0_; have BK247 := n1_; have GW247 := n2_; have GE247 := n3_; clear n0_ n1_ n2_ n3_; clear hb hbox hg; have hcz4_0 : w3.cell? ⟨gb247, 0, none⟩ = some (.int .i64 a0_0) := (blk_cell BK247.out 0).trans rfl; have hcz4_1 : w3.cell? ⟨gb247, 1, none⟩ = some (.string a0_1) := (blk_cell BK247.out 1).trans rfl; have hcz4_2 : w3.cell? ⟨gb247, 2, none⟩ = some (.int .i64 a0_2) := (blk_cell BK247.out 2).trans rfl; have hcz4_3 : w3.cell? ⟨gb247, 3, none⟩ = some (.slice A0_3 l0_3.length c0_3) := (blk_cell BK247.out 3).trans rfl; have hcz4_4 : w3.cell? ⟨gb247, 4, none⟩ = some (.slice A0_4 l0_4.length c0_4) := (blk_cell BK247.out 4).trans rfl; have hfz4_0 := blk_frozen BK247.out 0; have hfz4_1 := blk_frozen BK247.out 1; have hfz4_2 := blk_frozen BK247.out 2; have hfz4_3 := blk_frozen BK247.out 3; have hfz4_4 := blk_frozen BK247.out 4) | ((with_reducible refine gate_callee (f := 55) rfl ?_); refine goesL_ (some 4) rfl rfl Try.func55 (by kernel_rfl) rfl #[.agg #[.int .i64 a0_0, .string a0_1, .int .i64 a0_2, .slice A0_3 l0_3.length c0_3, .slice A0_4 l0_4.length c0_4], .int .i64 6] rfl (by (try simp only [List.map_toArray, List.map_cons, List.map_nil]); first | done | rfl | (simp only [List.length_drop, List.length_take]; rfl)) ?_; (with_reducible refine (impl_measured.calls k a0_0 a0_1 a0_2 _ _ l0_3 _ _ l0_4 6 t248 _ ?side1 ?side2 ?side3 ?side4 A2.out).mono ?_); (case side1 => repeat (first | exact (Kd.C_below HR0_3.out HB.out) | (with_reducible refine Kd.C_alloc ?_ _) | (with_reducible refine Kd.C_drewN ?_ _) | (with_reducible refine Kd.C_drew ?_))); (case side2 => exact HC0_3.out); (case side3 => repeat (first | exact (Kd.C_below HR0_4.out HB.out) | (with_reducible refine Kd.C_alloc ?_ _) | (with_reducible refine Kd.C_drewN ?_ _) | (with_reducible refine Kd.C_drew ?_))); (case side4 => exact HC0_4.out); rintro e w5 ⟨rfl, hb⟩; refine ⟨_, rfl, ?_⟩; have n0_ := Aside0.mk (blk_below (g := gb247) (o := .cells #[.int .i64 a0_0, .string a0_1, .int .i64 a0_2, .slice A0_3 l0_3.length c0_3, .slice A0_4 l0_4.length c0_4] 30 (0, 0)) (by (with_reducible repeat (first | refine blk_drewN ?_ _ | refine blk_drew ?_ | refine blk_alloc ?_ _)); exact BK247.out) hb); have n1_ := Aside0.mk (below_step (by repeat (first | (with_reducible first | exact HB.out | apply below_alloc | apply pw_below_drewN | apply below_drew1 | refine below_set ?_ GE247.out) | exact HB.out)) hb); clear BK247; clear HB; have BK247 := n0_; have HB := n1_; clear n0_ n1_; (try clear hb); (try clear hb2); (try clear hk); (try clear hi)))
  go_ret
  exact ⟨by first | rfl | (simp [errW_none, errW_some] <;> rfl) | (simp [*, errW_none, errW_some] <;> rfl), by repeat (first | (with_reducible first | exact HB.out | apply below_alloc | apply pw_below_drewN | apply below_drew1 | refine below_set ?_ GE247.out) | exact HB.out)⟩

end Go.Proofs.Ytchhognpijobcaa.G

/- G17 -/
-- Laid by wip/g/gprint.py out of the translation, by the kit's print program. Lean checks it.
namespace Go.Proofs.Ytchhognpijobcaa.G
open Go.RowKit Go.Proofs.YtchhognpijobcaaW.PrintWords Go.Proofs.YtchhognpijobcaaW.PrintLast Go.Proofs.YtchhognpijobcaaW.PrintMore
attribute [local go_sem] max2_int min2_int max_two min_two max_three min_three max_four min_four   -- for this text's walks alone
set_option linter.unusedVariables false
set_option linter.unusedSimpArgs false

/-! ### spec_ValueOk: function 17 -/
def spec_ValueOk.f (k : Nat) (a0_0 : Int) (a0_1 : ByteArray) (a0_2 : Int) (l0_3 : List ByteArray) (l0_4 : List (S30)) : Option (Bool) := (spec_l4Look.f k a0_0 a0_1 a0_2 l0_3 l0_4 6).bind fun t233 => (some (decide (t233 > 0)))
set_option maxHeartbeats 8000000 in
set_option maxRecDepth 100000 in
theorem spec_ValueOk.calls (k : Nat) (a0_0 : Int) (a0_1 : ByteArray) (a0_2 : Int) (A0_3 : Option Addr) (c0_3 : Nat) (l0_3 : List ByteArray) (A0_4 : Option Addr) (c0_4 : Nat) (l0_4 : List (S30)) (r : Bool) (w : World) (hr0_3 : Kd.C Kd.string w A0_3 l0_3.length l0_3) (hc0_3 : l0_3.length ≤ c0_3) (hr0_4 : Kd.C k30 w A0_4 l0_4.length l0_4) (hc0_4 : l0_4.length ≤ c0_4) (h : spec_ValueOk.f k a0_0 a0_1 a0_2 l0_3 l0_4 = some r) :
    Calls Try.prog 17 #[.agg #[.int .i64 a0_0, .string a0_1, .int .i64 a0_2, .slice A0_3 l0_3.length c0_3, .slice A0_4 l0_4.length c0_4]] w fun e w' => e = .returned (.bool r) ∧ Below w.heap.size w w' := by
  have hu30 := Try.underlying30
  have HR0_3 := Aside0.mk hr0_3
  have HC0_3 := Aside0.mk hc0_3
  clear hr0_3 hc0_3
  have HR0_4 := Aside0.mk hr0_4
  have HC0_4 := Aside0.mk hc0_4
  clear hr0_4 hc0_4
  have HB := Aside0.mk (Below.refl w.heap.size w)
  have H : ((spec_l4Look.f k a0_0 a0_1 a0_2 l0_3 l0_4 6).bind fun t233 => (some (decide (t233 > 0)))) = some r := h
  clear h
  replace H := Option.bind_eq_some_iff.mp H
  obtain ⟨t233, A20, H⟩ := H
  replace H : (some (decide (t233 > 0))) = some r := H
  have A2 := Aside0.mk A20
  clear A20
  obtain rfl := Option.some.inj H
  go_enter Try.func17, Try.ntmps17
  go_wp2_with (first | ((with_reducible refine gate_dst (N := 1) rfl ?_); refine box_event ?hg (N := 1) ?hd (cs := #[.int .i64 a0_0, .string a0_1, .int .i64 a0_2, .slice A0_3 l0_3.length c0_3, .slice A0_4 l0_4.length c0_4]) (t := 30) ?hr ?_; (case hd => rfl); (case hg => rfl); (case hr => first | (go_simp; done) | (go_simp; rfl)); intro gb232 hg w3 hbox hb; have n0_ := Aside0.mk (below_step (by repeat (first | (with_reducible first | exact HB.out | apply below_alloc | apply pw_below_drewN | apply below_drew1) | exact HB.out)) hb); have n1_ := Aside0.mk (hbox); have n2_ := Aside0.mk ((by rw [hg]; exact (below_size (by repeat (first | (with_reducible first | exact HB.out | apply below_alloc | apply pw_below_drewN | apply below_drew1) | exact HB.out))) : w.heap.size ≤ gb232)); have n3_ := Aside0.mk ((by rw [hg]; exact (below_size (by repeat (first | (with_reducible first | exact HB.out | apply below_alloc | apply pw_below_drewN | apply below_drew1) | exact HB.out))) : w.heap.size ≤ gb232)); clear HB; have HB := n0_; have BK232 := n1_; have GW232 := n2_; have GE232 := n3_; clear n0_ n1_ n2_ n3_; clear hb hbox hg; have hcz4_0 : w3.cell? ⟨gb232, 0, none⟩ = some (.int .i64 a0_0) := (blk_cell BK232.out 0).trans rfl; have hcz4_1 : w3.cell? ⟨gb232, 1, none⟩ = some (.string a0_1) := (blk_cell BK232.out 1).trans rfl; have hcz4_2 : w3.cell? ⟨gb232, 2, none⟩ = some (.int .i64 a0_2) := (blk_cell BK232.out 2).trans rfl; have hcz4_3 : w3.cell? ⟨gb232, 3, none⟩ = some (.slice A0_3 l0_3.length c0_3) := (blk_cell BK232.out 3).trans rfl; have hcz4_4 : w3.cell? ⟨gb232, 4, none⟩ = some (.slice A0_4 l0_4.length c0_4) := (blk_cell BK232.out 4).trans rfl; have hfz4_0 := blk_frozen BK232.out 0; have hfz4_1 := blk_frozen BK232.out 1; have hfz4_2 := blk_frozen BK232.out 2; have hfz4_3 := blk_frozen BK232.out 3; have hfz4_4 := blk_frozen BK232.out 4) | ((with_reducible refine gate_callee (f := 54) rfl ?_); refine goesL_ (some 4) rfl rfl Try.func54 (by kernel_rfl) rfl #[.agg #[.int .i64 a0_0, .string a0_1, .int .i64 a0_2, .slice A0_3 l0_3.length c0_3, .slice A0_4 l0_4.length c0_4], .int .i64 6] rfl (by (try simp only [List.map_toArray, List.map_cons, List.map_nil]); first | done | rfl | (simp only [List.length_drop, List.length_take]; rfl)) ?_; (with_reducible refine (spec_l4Look.calls k a0_0 a0_1 a0_2 _ _ l0_3 _ _ l0_4 6 t233 _ ?side1 ?side2 ?side3 ?side4 A2.out).mono ?_); (case side1 => repeat (first | exact (Kd.C_below HR0_3.out HB.out) | (with_reducible refine Kd.C_alloc ?_ _) | (with_reducible refine Kd.C_drewN ?_ _) | (with_reducible refine Kd.C_drew ?_))); (case side2 => exact HC0_3.out); (case side3 => repeat (first | exact (Kd.C_below HR0_4.out HB.out) | (with_reducible refine Kd.C_alloc ?_ _) | (with_reducible refine Kd.C_drewN ?_ _) | (with_reducible refine Kd.C_drew ?_))); (case side4 => exact HC0_4.out); rintro e w5 ⟨rfl, hb⟩; refine ⟨_, rfl, ?_⟩; have n0_ := Aside0.mk (blk_below (g := gb232) (o := .cells #[.int .i64 a0_0, .string a0_1, .int .i64 a0_2, .slice A0_3 l0_3.length c0_3, .slice A0_4 l0_4.length c0_4] 30 (0, 0)) (by (with_reducible repeat (first | refine blk_drewN ?_ _ | refine blk_drew ?_ | refine blk_alloc ?_ _)); exact BK232.out) hb); have n1_ := Aside0.mk (below_step (by repeat (first | (with_reducible first | exact HB.out | apply below_alloc | apply pw_below_drewN | apply below_drew1 | refine below_set ?_ GE232.out) | exact HB.out)) hb); clear BK232; clear HB; have BK232 := n0_; have HB := n1_; clear n0_ n1_; (try clear hb); (try clear hb2); (try clear hk); (try clear hi)))
  go_ret
  exact ⟨by first | rfl | (simp [errW_none, errW_some] <;> rfl) | (simp [*, errW_none, errW_some] <;> rfl), by repeat (first | (with_reducible first | exact HB.out | apply below_alloc | apply pw_below_drewN | apply below_drew1 | refine below_set ?_ GE232.out) | exact HB.out)⟩

end Go.Proofs.Ytchhognpijobcaa.G

/- PValB -/
/-
  ValueOk, both.
-/
namespace Go.Proofs.Ytchhognpijobcaa.G
open Go.RowKit Go.Proofs.YtchhognpijobcaaW.PrintWords Go.Proofs.YtchhognpijobcaaW.PrintLast Go.Proofs.YtchhognpijobcaaW.PrintMore
set_option linter.unusedVariables false
set_option linter.unusedSimpArgs false
def valB (x : IVal) : Bool := decide (0 < lookN 6 x)
theorem specValueOk_ev {n : Nat} (x : IVal) (h : SmI n x) : Ev (fun k => spec_ValueOk.f k x.f0 x.f1 x.f2 x.f3 x.f4) (valB x) := by
  unfold spec_ValueOk.f valB
  exact Ev.bind (l4Look_ev 6 n x (by omega) h) (ev_some (by rw [decide_eq_decide]; omega))
theorem implValueOk_ev {n : Nat} (x : IVal) (h : SmI n x) : Ev (fun k => impl_ValueOk.f k x.f0 x.f1 x.f2 x.f3 x.f4) (valB x) := by
  unfold impl_ValueOk.f valB
  refine Ev.bind (measured_ev 6 n x (by omega) h) (ev_some ?_)
  have := lookN_le 6 x
  unfold bigN
  rw [decide_eq_decide]
  split <;> omega
end Go.Proofs.Ytchhognpijobcaa.G

/- G95 -/
-- Laid by wip/g/gprint.py out of the translation, by the kit's print program. Lean checks it.
namespace Go.Proofs.Ytchhognpijobcaa.G
open Go.RowKit Go.Proofs.YtchhognpijobcaaW.PrintWords Go.Proofs.YtchhognpijobcaaW.PrintLast Go.Proofs.YtchhognpijobcaaW.PrintMore
attribute [local go_sem] max2_int min2_int max_two min_two max_three min_three max_four min_four   -- for this text's walks alone
set_option linter.unusedVariables false
set_option linter.unusedSimpArgs false

/-! ### spec_l4Number: function 95 -/
mutual
def spec_l4Number.j0 : Nat → ByteArray → Int → Bool → Option (Int)
  | 0, _, _, _ => none
  | k + 1, x0, x3, x18 => if x18 = true then (some (-1)) else (spec_l4Number.l0 k x0 x3 0)
def spec_l4Number.l0 : Nat → ByteArray → Int → Int → Option (Int)
  | 0, _, _, _ => none
  | k + 1, x0, x3, x4 => if x4 < (x0.size : Int) then (if 0 ≤ x4 then ((spec_l1In.f (wrap64 (bt x0 x4)) 48 57).bind fun t418 => (if t418 = true then (spec_l4Number.l0 k x0 (wrap64 ((wrap64 (x3 * 10)) + (((bt x0 x4) - 48) % 256))) (wrap64 (x4 + 1))) else (some (-1)))) else (none)) else (some x3)
end
def spec_l4Number.f (k : Nat) (a0 : ByteArray) : Option (Int) := (spec_l1In.f (a0.size : Int) 1 9).bind fun t417 => (if t417 = true then (if (a0.size : Int) > 1 then (if 0 < (a0.size : Int) then (spec_l4Number.j0 k a0 0 ((bt a0 0) == 48)) else (none)) else (spec_l4Number.j0 k a0 0 false)) else (spec_l4Number.j0 k a0 0 true))
set_option maxHeartbeats 8000000 in
set_option maxRecDepth 100000 in
theorem spec_l4Number.calls (k : Nat) (a0 : ByteArray) (r : Int) (w : World) (h : spec_l4Number.f k a0 = some r) :
    Calls Try.prog 95 #[.string a0] w fun e w' => e = .returned (.int .i64 r) ∧ Drawn0 w w' := by
  have H : ((spec_l1In.f (a0.size : Int) 1 9).bind fun t417 => (if t417 = true then (if (a0.size : Int) > 1 then (if 0 < (a0.size : Int) then (spec_l4Number.j0 k a0 0 ((bt a0 0) == 48)) else (none)) else (spec_l4Number.j0 k a0 0 false)) else (spec_l4Number.j0 k a0 0 true))) = some r := h
  clear h
  have HC2 := Aside0.mk H
  clear H
  go_enter Try.func95, Try.ntmps95
  go_upto_region 2 with (fail)
  go_cut [18] (fun v18 wc => ∃ (kq : Nat) (x18_1 : Bool), v18 = .bool x18_1 ∧ Aside0 (spec_l4Number.j0 kq a0 0 x18_1 = some r) ∧ Aside0 (kq ≤ k) ∧ Drawn0 w wc)
  case first =>
    have H := HC2.out
    clear HC2
    replace H := Option.bind_eq_some_iff.mp H
    obtain ⟨t417, A30, H⟩ := H
    replace H : (if t417 = true then (if (a0.size : Int) > 1 then (if 0 < (a0.size : Int) then (spec_l4Number.j0 k a0 0 ((bt a0 0) == 48)) else (none)) else (spec_l4Number.j0 k a0 0 false)) else (spec_l4Number.j0 k a0 0 true)) = some r := H
    have A3 := Aside0.mk A30
    clear A30
    by_cases c4 : t417 = true
    · subst c4
      have H1 : (if (a0.size : Int) > 1 then (if 0 < (a0.size : Int) then (spec_l4Number.j0 k a0 0 ((bt a0 0) == 48)) else (none)) else (spec_l4Number.j0 k a0 0 false)) = some r := by rw [if_pos rfl] at H; exact H
      clear H
      have H := H1
      clear H1
      by_cases c5 : (a0.size : Int) > 1
      · rw [if_pos c5] at H
        have c5b0 : decide (1 < (a0.size : Int)) = true := decide_eq_true c5
        have c5b1 : decide (1 < a0.size) = true := decide_eq_true (by omega)
        clear c5
        (first | rw [c5b0] | (simp only [i64_w, i32_w]; rw [c5b0]) | skip)
        by_cases c6 : 0 < (a0.size : Int)
        · rw [if_pos c6] at H
          have c6b0 : decide (0 < (a0.size : Int)) = true := decide_eq_true c6
          have c6b1 : decide (0 < a0.size) = true := decide_eq_true (by omega)
          clear c6
          have H' := Aside0.mk H
          clear H
          go_wp2_with (first | ((with_reducible refine gate_callee (f := 61) rfl ?_); refine goesL_ (some 7) rfl rfl Try.func61 (by kernel_rfl) rfl #[.int .i64 (a0.size : Int), .int .i64 1, .int .i64 9] rfl (by (try simp only [List.map_toArray, List.map_cons, List.map_nil]); first | done | rfl | (simp only [List.length_drop, List.length_take]; rfl)) ?_; (with_reducible refine (spec_l1In.calls (a0.size : Int) 1 9 true _ A3.out).mono ?_); rintro e w' ⟨rfl, ⟨nd, rfl⟩⟩; refine ⟨_, rfl, ?_⟩; have p7 : 0 ≤ (0 : Int) := (by omega); have q7 : 0 < a0.size := (by have : (0 : Int) < (a0.size : Int) := of_decide_eq_true (by first | (with_reducible assumption) | assumption); omega); have hx7 : ∀ h : 0 < a0.size, ((a0[0]'h).toNat : Int) = bt a0 0 := bt_at a0 0; clear p7; have qi7 : (0 < (a0.size : Int)) = True := eq_true (of_decide_eq_true (by first | (with_reducible assumption) | assumption)); replace q7 := eq_true q7))
          go_meet
          case rel => exact ⟨_, (((bt a0 0) == 48)), (by first | rfl | (simp; done) | (simp [*]; done)), H', ⟨by first | omega | exact Nat.le_refl _⟩, by repeat (first | exact Drawn0.refl _ | apply Drawn0.step)⟩
        · rw [if_neg c6] at H
          exact absurd H (by simp)
      · rw [if_neg c5] at H
        have c5b0 : decide (1 < (a0.size : Int)) = false := decide_eq_false c5
        have c5b1 : decide (1 < a0.size) = false := decide_eq_false (by omega)
        clear c5
        (first | rw [c5b0] | (simp only [i64_w, i32_w]; rw [c5b0]) | skip)
        have H' := Aside0.mk H
        clear H
        go_wp2_with (first | ((with_reducible refine gate_callee (f := 61) rfl ?_); refine goesL_ (some 7) rfl rfl Try.func61 (by kernel_rfl) rfl #[.int .i64 (a0.size : Int), .int .i64 1, .int .i64 9] rfl (by (try simp only [List.map_toArray, List.map_cons, List.map_nil]); first | done | rfl | (simp only [List.length_drop, List.length_take]; rfl)) ?_; (with_reducible refine (spec_l1In.calls (a0.size : Int) 1 9 true _ A3.out).mono ?_); rintro e w' ⟨rfl, ⟨nd, rfl⟩⟩; refine ⟨_, rfl, ?_⟩))
        go_meet
        case rel => exact ⟨_, (false), (by first | rfl | (simp; done) | (simp [*]; done)), H', ⟨by first | omega | exact Nat.le_refl _⟩, by repeat (first | exact Drawn0.refl _ | apply Drawn0.step)⟩
    · replace c4 := Bool.eq_false_iff.mpr c4
      subst c4
      have H1 : (spec_l4Number.j0 k a0 0 true) = some r := by rw [if_neg (show ¬ (false = true) by decide)] at H; exact H
      clear H
      have H := H1
      clear H1
      have H' := Aside0.mk H
      clear H
      go_wp2_with (first | ((with_reducible refine gate_callee (f := 61) rfl ?_); refine goesL_ (some 7) rfl rfl Try.func61 (by kernel_rfl) rfl #[.int .i64 (a0.size : Int), .int .i64 1, .int .i64 9] rfl (by (try simp only [List.map_toArray, List.map_cons, List.map_nil]); first | done | rfl | (simp only [List.length_drop, List.length_take]; rfl)) ?_; (with_reducible refine (spec_l1In.calls (a0.size : Int) 1 9 false _ A3.out).mono ?_); rintro e w' ⟨rfl, ⟨nd, rfl⟩⟩; refine ⟨_, rfl, ?_⟩))
      go_meet
      case rel => exact ⟨_, (true), (by first | rfl | (simp; done) | (simp [*]; done)), H', ⟨by first | omega | exact Nat.le_refl _⟩, by repeat (first | exact Drawn0.refl _ | apply Drawn0.step)⟩
  case rest =>
    clear HC2
    try clear p2
    try clear c4
    try clear c5
    try clear c5b0
    try clear c5b1
    try clear c6
    try clear c6b0
    try clear c6b1
    try clear p7
    try clear q7
    try clear hx7
    try clear qi7
    try clear p7
    try clear q7
    obtain ⟨kq, x18_1, rfl, HA, HJ1, ⟨mc1, rfl⟩⟩ := hcut
    cases kq with
    | zero => exact absurd HA.out (by simp [spec_l4Number.j0])
    | succ kj1 =>
      have H := HA.out
      clear HA
      simp only [spec_l4Number.j0] at H
      by_cases c8 : x18_1 = true
      · subst c8
        have H1 : (some (-1)) = some r := by rw [if_pos rfl] at H; exact H
        clear H
        have H := H1
        clear H1
        obtain rfl := Option.some.inj H
        go_wp2
        go_ret
        exact ⟨by first | rfl | (simp; done) | (simp [*]; done), by repeat (first | exact Drawn0.refl _ | apply Drawn0.step)⟩
      · replace c8 := Bool.eq_false_iff.mpr c8
        subst c8
        have H1 : (spec_l4Number.l0 kj1 a0 0 0) = some r := by rw [if_neg (show ¬ (false = true) by decide)] at H; exact H
        clear H
        have H := H1
        clear H1
        have H' := Aside0.mk H
        clear H
        go_wp2
        go_loopg [3, 4] kj1 (fun kq v3 v4 w' => ∃ (x3_2 : Int) (x4_2 : Int), v3 = .int .i64 x3_2 ∧ v4 = .int .i64 x4_2 ∧ Aside0 (spec_l4Number.l0 kq a0 x3_2 x4_2 = some r) ∧ Aside0 (kq ≤ kj1) ∧ Drawn0 w w')
        case atStart => exact ⟨(0), (0), (by first | rfl | (simp; done) | (simp [*]; done)), (by first | rfl | (simp; done) | (simp [*]; done)), H', ⟨Nat.le_refl _⟩, by repeat (first | exact Drawn0.refl _ | apply Drawn0.step)⟩
        case round =>
          clear H'
          try clear c1
          try clear p2
          try clear c4
          try clear c5
          try clear c5b0
          try clear c5b1
          try clear c6
          try clear c6b0
          try clear c6b1
          try clear p7
          try clear q7
          try clear hx7
          try clear qi7
          try clear c8
          try clear p2
          try clear p7
          try clear q7
          obtain ⟨x3_2, x4_2, rfl, rfl, HA, HK2, ⟨m2, rfl⟩⟩ := hrel
          cases gk with
          | zero => exact absurd HA.out (by simp [spec_l4Number.l0])
          | succ k2 =>
            have H := HA.out
            clear HA
            simp only [spec_l4Number.l0] at H
            by_cases c9 : x4_2 < (a0.size : Int)
            · rw [if_pos c9] at H
              have c9b0 : decide (x4_2 < (a0.size : Int)) = true := decide_eq_true c9
              clear c9
              by_cases c10 : 0 ≤ x4_2
              · rw [if_pos c10] at H
                have c10b0 : decide (0 ≤ x4_2) = true := decide_eq_true c10
                clear c10
                replace H := Option.bind_eq_some_iff.mp H
                obtain ⟨t418, A120, H⟩ := H
                replace H : (if t418 = true then (spec_l4Number.l0 k2 a0 (wrap64 ((wrap64 (x3_2 * 10)) + (((bt a0 x4_2) - 48) % 256))) (wrap64 (x4_2 + 1))) else (some (-1))) = some r := H
                have A12 := Aside0.mk A120
                clear A120
                by_cases c13 : t418 = true
                · subst c13
                  have H1 : (spec_l4Number.l0 k2 a0 (wrap64 ((wrap64 (x3_2 * 10)) + (((bt a0 x4_2) - 48) % 256))) (wrap64 (x4_2 + 1))) = some r := by rw [if_pos rfl] at H; exact H
                  clear H
                  have H := H1
                  clear H1
                  have H' := Aside0.mk H
                  clear H
                  have p11 : 0 ≤ (x4_2 : Int) := of_decide_eq_true (by first | (with_reducible assumption) | assumption)
                  have q11 : x4_2 < (a0.size : Int) := of_decide_eq_true (by first | (with_reducible assumption) | assumption)
                  have hx11 := bt_at a0 x4_2
                  replace p11 := eq_true p11
                  replace q11 := eq_true q11
                  go_wp2_with (first | ((with_reducible refine gate_callee (f := 61) rfl ?_); refine goesL_ (some 29) rfl rfl Try.func61 (by kernel_rfl) rfl #[.int .i64 (wrap64 (bt a0 x4_2)), .int .i64 48, .int .i64 57] rfl (by (try simp only [List.map_toArray, List.map_cons, List.map_nil]); first | done | rfl | (simp only [List.length_drop, List.length_take]; rfl)) ?_; (with_reducible refine (spec_l1In.calls (wrap64 (bt a0 x4_2)) 48 57 true _ A12.out).mono ?_); rintro e w' ⟨rfl, ⟨nd, rfl⟩⟩; refine ⟨_, rfl, ?_⟩; have p14 : 0 ≤ (x4_2 : Int) := of_decide_eq_true (by first | (with_reducible assumption) | assumption); have q14 : x4_2 < (a0.size : Int) := of_decide_eq_true (by first | (with_reducible assumption) | assumption); have hx14 := bt_at a0 x4_2; replace p14 := eq_true p14; replace q14 := eq_true q14))
                  go_roundg k2
                  case measure => have := HJ1.out; have := HK2.out; omega
                  case rel => exact ⟨(wrap64 ((wrap64 (x3_2 * 10)) + (((bt a0 x4_2) - 48) % 256))), (wrap64 (x4_2 + 1)), (by first | rfl | (simp; done) | (simp [*]; done)), (by first | rfl | (simp; done) | (simp [*]; done)), H', ⟨by have := HJ1.out; have := HK2.out; omega⟩, by repeat (first | exact Drawn0.refl _ | apply Drawn0.step)⟩
                · replace c13 := Bool.eq_false_iff.mpr c13
                  subst c13
                  have H1 : (some (-1)) = some r := by rw [if_neg (show ¬ (false = true) by decide)] at H; exact H
                  clear H
                  have H := H1
                  clear H1
                  obtain rfl := Option.some.inj H
                  have p11 : 0 ≤ (x4_2 : Int) := of_decide_eq_true (by first | (with_reducible assumption) | assumption)
                  have q11 : x4_2 < (a0.size : Int) := of_decide_eq_true (by first | (with_reducible assumption) | assumption)
                  have hx11 := bt_at a0 x4_2
                  replace p11 := eq_true p11
                  replace q11 := eq_true q11
                  go_wp2_with (first | ((with_reducible refine gate_callee (f := 61) rfl ?_); refine goesL_ (some 29) rfl rfl Try.func61 (by kernel_rfl) rfl #[.int .i64 (wrap64 (bt a0 x4_2)), .int .i64 48, .int .i64 57] rfl (by (try simp only [List.map_toArray, List.map_cons, List.map_nil]); first | done | rfl | (simp only [List.length_drop, List.length_take]; rfl)) ?_; (with_reducible refine (spec_l1In.calls (wrap64 (bt a0 x4_2)) 48 57 false _ A12.out).mono ?_); rintro e w' ⟨rfl, ⟨nd, rfl⟩⟩; refine ⟨_, rfl, ?_⟩))
                  go_ret
                  exact ⟨by first | rfl | (simp; done) | (simp [*]; done), by repeat (first | exact Drawn0.refl _ | apply Drawn0.step)⟩
              · rw [if_neg c10] at H
                exact absurd H (by simp)
            · rw [if_neg c9] at H
              have c9b0 : decide (x4_2 < (a0.size : Int)) = false := decide_eq_false c9
              clear c9
              obtain rfl := Option.some.inj H
              go_wp2
              go_ret
              exact ⟨by first | rfl | (simp; done) | (simp [*]; done), by repeat (first | exact Drawn0.refl _ | apply Drawn0.step)⟩

end Go.Proofs.Ytchhognpijobcaa.G

/- G116 -/
-- Laid by wip/g/gprint.py out of the translation, by the kit's print program. Lean checks it.
namespace Go.Proofs.Ytchhognpijobcaa.G
open Go.RowKit Go.Proofs.YtchhognpijobcaaW.PrintWords Go.Proofs.YtchhognpijobcaaW.PrintLast Go.Proofs.YtchhognpijobcaaW.PrintMore
attribute [local go_sem] max2_int min2_int max_two min_two max_three min_three max_four min_four   -- for this text's walks alone
set_option linter.unusedVariables false
set_option linter.unusedSimpArgs false

/-! ### impl_digits: function 116 -/
mutual
def impl_digits.j0 : Nat → ByteArray → Bool → Option (Int × Bool)
  | 0, _, _ => none
  | k + 1, x0, x25 => if x25 = true then (some (0, false)) else (impl_digits.l0 k x0 0 (x0.size : Int) 0)
def impl_digits.l0 : Nat → ByteArray → Int → Int → Int → Option (Int × Bool)
  | 0, _, _, _, _ => none
  | k + 1, x0, x6, x27, x28 => if x28 < x27 then (if 0 ≤ x28 then (if x28 < (x0.size : Int) then (if (bt x0 x28) < 48 then (some (0, false)) else (if (bt x0 x28) > 57 then (some (0, false)) else (impl_digits.l0 k x0 (wrap64 ((wrap64 (10 * x6)) + (((bt x0 x28) - 48) % 256))) x27 (wrap64 (x28 + 1))))) else (none)) else (none)) else (some (x6, true))
end
def impl_digits.f (k : Nat) (a0 : ByteArray) (a1 : Int) : Option (Int × Bool) := if a0.toList = ([] : List UInt8) then (impl_digits.j0 k a0 true) else (if (a0.size : Int) > a1 then (impl_digits.j0 k a0 true) else (if 0 < (a0.size : Int) then (if (bt a0 0) = 48 then (impl_digits.j0 k a0 (decide ((a0.size : Int) > 1))) else (impl_digits.j0 k a0 false)) else (none)))
set_option maxHeartbeats 8000000 in
set_option maxRecDepth 100000 in
theorem impl_digits.calls (k : Nat) (a0 : ByteArray) (a1 : Int) (r1 : Int) (r2 : Bool) (w : World) (h : impl_digits.f k a0 a1 = some (r1, r2)) :
    Calls Try.prog 116 #[.string a0, .int .i64 a1] w fun e w' => e = .returned (.tuple #[.int .i64 r1, .bool r2]) ∧ Drawn0 w w' := by
  have H : (if a0.toList = ([] : List UInt8) then (impl_digits.j0 k a0 true) else (if (a0.size : Int) > a1 then (impl_digits.j0 k a0 true) else (if 0 < (a0.size : Int) then (if (bt a0 0) = 48 then (impl_digits.j0 k a0 (decide ((a0.size : Int) > 1))) else (impl_digits.j0 k a0 false)) else (none)))) = some (r1, r2) := h
  clear h
  have HC3 := Aside0.mk H
  clear H
  go_enter Try.func116, Try.ntmps116
  go_upto_region 1 with (fail)
  go_cut [25] (fun v25 wc => ∃ (kq : Nat) (x25_2 : Bool), v25 = .bool x25_2 ∧ Aside0 (impl_digits.j0 kq a0 x25_2 = some (r1, r2)) ∧ Aside0 (kq ≤ k) ∧ Drawn0 w wc)
  case first =>
    have H := HC3.out
    clear HC3
    by_cases c4 : a0.toList = ([] : List UInt8)
    · rw [if_pos c4] at H
      have c4b0 : (a0.toList == ([] : List UInt8)) = true := beq_iff_eq.mpr c4
      have c4b1 : (a0.toList != ([] : List UInt8)) = false := bne_eq_false_iff_eq.mpr c4
      clear c4
      (first | rw [c4b0] | (simp only [i64_w, i32_w]; rw [c4b0]) | skip)
      have H' := Aside0.mk H
      clear H
      go_wp2
      go_meet
      case rel => exact ⟨_, (true), (by first | rfl | (simp; done) | (simp [*]; done)), H', ⟨by first | omega | exact Nat.le_refl _⟩, by repeat (first | exact Drawn0.refl _ | apply Drawn0.step)⟩
    · rw [if_neg c4] at H
      have c4b0 : (a0.toList == ([] : List UInt8)) = false := beq_eq_false_iff_ne.mpr c4
      have c4b1 : (a0.toList != ([] : List UInt8)) = true := bne_iff_ne.mpr c4
      (first | rw [c4b0] | (simp only [i64_w, i32_w]; rw [c4b0]) | skip)
      by_cases c5 : (a0.size : Int) > a1
      · rw [if_pos c5] at H
        have c5b0 : decide (a1 < (a0.size : Int)) = true := decide_eq_true c5
        clear c5
        have H' := Aside0.mk H
        clear H
        go_wp2
        go_meet
        case rel => exact ⟨_, (true), (by first | rfl | (simp; done) | (simp [*]; done)), H', ⟨by first | omega | exact Nat.le_refl _⟩, by repeat (first | exact Drawn0.refl _ | apply Drawn0.step)⟩
      · rw [if_neg c5] at H
        have c5b0 : decide (a1 < (a0.size : Int)) = false := decide_eq_false c5
        clear c5
        by_cases c6 : 0 < (a0.size : Int)
        · rw [if_pos c6] at H
          have c6b0 : decide (0 < (a0.size : Int)) = true := decide_eq_true c6
          have c6b1 : decide (0 < a0.size) = true := decide_eq_true (by omega)
          clear c6
          by_cases c8 : (bt a0 0) = 48
          · rw [if_pos c8] at H
            have c8b0 : ((bt a0 0) == 48) = true := beq_iff_eq.mpr c8
            have c8b1 : ((bt a0 0) != 48) = false := bne_eq_false_iff_eq.mpr c8
            clear c8
            have H' := Aside0.mk H
            clear H
            have p7 : 0 ≤ (0 : Int) := (by omega)
            have q7 : 0 < a0.size := (by have : (0 : Int) < (a0.size : Int) := of_decide_eq_true (by first | (with_reducible assumption) | assumption); omega)
            have hx7 : ∀ h : 0 < a0.size, ((a0[0]'h).toNat : Int) = bt a0 0 := bt_at a0 0
            clear p7
            have qi7 : (0 < (a0.size : Int)) = True := eq_true (of_decide_eq_true (by first | (with_reducible assumption) | assumption))
            replace q7 := eq_true q7
            go_wp2
            go_meet
            case rel => exact ⟨_, (decide ((a0.size : Int) > 1)), (by first | rfl | (simp; done) | (simp [*]; done)), H', ⟨by first | omega | exact Nat.le_refl _⟩, by repeat (first | exact Drawn0.refl _ | apply Drawn0.step)⟩
          · rw [if_neg c8] at H
            have c8b0 : ((bt a0 0) == 48) = false := beq_eq_false_iff_ne.mpr c8
            have c8b1 : ((bt a0 0) != 48) = true := bne_iff_ne.mpr c8
            have H' := Aside0.mk H
            clear H
            have p7 : 0 ≤ (0 : Int) := (by omega)
            have q7 : 0 < a0.size := (by have : (0 : Int) < (a0.size : Int) := of_decide_eq_true (by first | (with_reducible assumption) | assumption); omega)
            have hx7 : ∀ h : 0 < a0.size, ((a0[0]'h).toNat : Int) = bt a0 0 := bt_at a0 0
            clear p7
            have qi7 : (0 < (a0.size : Int)) = True := eq_true (of_decide_eq_true (by first | (with_reducible assumption) | assumption))
            replace q7 := eq_true q7
            go_wp2
            go_meet
            case rel => exact ⟨_, (false), (by first | rfl | (simp; done) | (simp [*]; done)), H', ⟨by first | omega | exact Nat.le_refl _⟩, by repeat (first | exact Drawn0.refl _ | apply Drawn0.step)⟩
        · rw [if_neg c6] at H
          exact absurd H (by simp)
  case rest =>
    clear HC3
    try clear c1
    try clear p2
    try clear c4
    try clear c4b0
    try clear c4b1
    try clear c5
    try clear c5b0
    try clear c6
    try clear c6b0
    try clear c6b1
    try clear p7
    try clear q7
    try clear hx7
    try clear qi7
    try clear c8
    try clear c8b0
    try clear c8b1
    try clear p7
    try clear q7
    obtain ⟨kq, x25_2, rfl, HA, HJ2, ⟨mc2, rfl⟩⟩ := hcut
    cases kq with
    | zero => exact absurd HA.out (by simp [impl_digits.j0])
    | succ kj2 =>
      have H := HA.out
      clear HA
      simp only [impl_digits.j0] at H
      by_cases c9 : x25_2 = true
      · subst c9
        have H1 : (some (0, false)) = some (r1, r2) := by rw [if_pos rfl] at H; exact H
        clear H
        have H := H1
        clear H1
        simp only [Option.some.injEq, Prod.mk.injEq] at H
        obtain ⟨rfl, rfl⟩ := H
        go_wp2
        go_ret2
        exact ⟨by first | rfl | (simp; done) | (simp [*]; done), by repeat (first | exact Drawn0.refl _ | apply Drawn0.step)⟩
      · replace c9 := Bool.eq_false_iff.mpr c9
        subst c9
        have H1 : (impl_digits.l0 kj2 a0 0 (a0.size : Int) 0) = some (r1, r2) := by rw [if_neg (show ¬ (false = true) by decide)] at H; exact H
        clear H
        have H := H1
        clear H1
        have H' := Aside0.mk H
        clear H
        go_wp2
        go_loopg [6, 28] kj2 (fun kq v6 v28 w' => ∃ (x6_2 : Int) (x28_2 : Int), v6 = .int .i64 x6_2 ∧ v28 = .int .i64 x28_2 ∧ Aside0 (impl_digits.l0 kq a0 x6_2 (a0.size : Int) x28_2 = some (r1, r2)) ∧ Aside0 (kq ≤ kj2) ∧ Drawn0 w w')
        case atStart => exact ⟨(0), (0), (by first | rfl | (simp; done) | (simp [*]; done)), (by first | rfl | (simp; done) | (simp [*]; done)), H', ⟨Nat.le_refl _⟩, by repeat (first | exact Drawn0.refl _ | apply Drawn0.step)⟩
        case round =>
          clear H'
          try clear c1
          try clear c2
          try clear p2
          try clear c4
          try clear c4b0
          try clear c4b1
          try clear c5
          try clear c5b0
          try clear c6
          try clear c6b0
          try clear c6b1
          try clear p7
          try clear q7
          try clear hx7
          try clear qi7
          try clear c8
          try clear c8b0
          try clear c8b1
          try clear c9
          try clear p2
          try clear p7
          try clear q7
          obtain ⟨x6_2, x28_2, rfl, rfl, HA, HK2, ⟨m2, rfl⟩⟩ := hrel
          cases gk with
          | zero => exact absurd HA.out (by simp [impl_digits.l0])
          | succ k2 =>
            have H := HA.out
            clear HA
            simp only [impl_digits.l0] at H
            by_cases c10 : x28_2 < (a0.size : Int)
            · rw [if_pos c10] at H
              have c10b0 : decide (x28_2 < (a0.size : Int)) = true := decide_eq_true c10
              clear c10
              by_cases c11 : 0 ≤ x28_2
              · rw [if_pos c11] at H
                have c11b0 : decide (0 ≤ x28_2) = true := decide_eq_true c11
                clear c11
                by_cases c12 : x28_2 < (a0.size : Int)
                · rw [if_pos c12] at H
                  have c12b0 : decide (x28_2 < (a0.size : Int)) = true := decide_eq_true c12
                  clear c12
                  by_cases c14 : (bt a0 x28_2) < 48
                  · rw [if_pos c14] at H
                    have c14b0 : decide ((bt a0 x28_2) < 48) = true := decide_eq_true c14
                    clear c14
                    simp only [Option.some.injEq, Prod.mk.injEq] at H
                    obtain ⟨rfl, rfl⟩ := H
                    have p13 : 0 ≤ (x28_2 : Int) := of_decide_eq_true (by first | (with_reducible assumption) | assumption)
                    have q13 : x28_2 < (a0.size : Int) := of_decide_eq_true (by first | (with_reducible assumption) | assumption)
                    have hx13 := bt_at a0 x28_2
                    replace p13 := eq_true p13
                    replace q13 := eq_true q13
                    go_wp2
                    go_ret2
                    exact ⟨by first | rfl | (simp; done) | (simp [*]; done), by repeat (first | exact Drawn0.refl _ | apply Drawn0.step)⟩
                  · rw [if_neg c14] at H
                    have c14b0 : decide ((bt a0 x28_2) < 48) = false := decide_eq_false c14
                    clear c14
                    by_cases c16 : (bt a0 x28_2) > 57
                    · rw [if_pos c16] at H
                      have c16b0 : decide (57 < (bt a0 x28_2)) = true := decide_eq_true c16
                      clear c16
                      simp only [Option.some.injEq, Prod.mk.injEq] at H
                      obtain ⟨rfl, rfl⟩ := H
                      have p13 : 0 ≤ (x28_2 : Int) := of_decide_eq_true (by first | (with_reducible assumption) | assumption)
                      have q13 : x28_2 < (a0.size : Int) := of_decide_eq_true (by first | (with_reducible assumption) | assumption)
                      have hx13 := bt_at a0 x28_2
                      replace p13 := eq_true p13
                      replace q13 := eq_true q13
                      have p15 : 0 ≤ (x28_2 : Int) := of_decide_eq_true (by first | (with_reducible assumption) | assumption)
                      have q15 : x28_2 < (a0.size : Int) := of_decide_eq_true (by first | (with_reducible assumption) | assumption)
                      have hx15 := bt_at a0 x28_2
                      replace p15 := eq_true p15
                      replace q15 := eq_true q15
                      go_wp2
                      go_ret2
                      exact ⟨by first | rfl | (simp; done) | (simp [*]; done), by repeat (first | exact Drawn0.refl _ | apply Drawn0.step)⟩
                    · rw [if_neg c16] at H
                      have c16b0 : decide (57 < (bt a0 x28_2)) = false := decide_eq_false c16
                      clear c16
                      have H' := Aside0.mk H
                      clear H
                      have p13 : 0 ≤ (x28_2 : Int) := of_decide_eq_true (by first | (with_reducible assumption) | assumption)
                      have q13 : x28_2 < (a0.size : Int) := of_decide_eq_true (by first | (with_reducible assumption) | assumption)
                      have hx13 := bt_at a0 x28_2
                      replace p13 := eq_true p13
                      replace q13 := eq_true q13
                      have p15 : 0 ≤ (x28_2 : Int) := of_decide_eq_true (by first | (with_reducible assumption) | assumption)
                      have q15 : x28_2 < (a0.size : Int) := of_decide_eq_true (by first | (with_reducible assumption) | assumption)
                      have hx15 := bt_at a0 x28_2
                      replace p15 := eq_true p15
                      replace q15 := eq_true q15
                      have p17 : 0 ≤ (x28_2 : Int) := of_decide_eq_true (by first | (with_reducible assumption) | assumption)
                      have q17 : x28_2 < (a0.size : Int) := of_decide_eq_true (by first | (with_reducible assumption) | assumption)
                      have hx17 := bt_at a0 x28_2
                      replace p17 := eq_true p17
                      replace q17 := eq_true q17
                      go_wp2
                      go_roundg k2
                      case measure => have := HJ2.out; have := HK2.out; omega
                      case rel => exact ⟨(wrap64 ((wrap64 (10 * x6_2)) + (((bt a0 x28_2) - 48) % 256))), (wrap64 (x28_2 + 1)), (by first | rfl | (simp; done) | (simp [*]; done)), (by first | rfl | (simp; done) | (simp [*]; done)), H', ⟨by have := HJ2.out; have := HK2.out; omega⟩, by repeat (first | exact Drawn0.refl _ | apply Drawn0.step)⟩
                · rw [if_neg c12] at H
                  exact absurd H (by simp)
              · rw [if_neg c11] at H
                exact absurd H (by simp)
            · rw [if_neg c10] at H
              have c10b0 : decide (x28_2 < (a0.size : Int)) = false := decide_eq_false c10
              clear c10
              simp only [Option.some.injEq, Prod.mk.injEq] at H
              obtain ⟨rfl, rfl⟩ := H
              go_wp2
              go_ret2
              exact ⟨by first | rfl | (simp; done) | (simp [*]; done), by repeat (first | exact Drawn0.refl _ | apply Drawn0.step)⟩

end Go.Proofs.Ytchhognpijobcaa.G

/- G103 -/
-- Laid by wip/g/gprint.py out of the translation, by the kit's print program. Lean checks it.
namespace Go.Proofs.Ytchhognpijobcaa.G
open Go.RowKit Go.Proofs.YtchhognpijobcaaW.PrintWords Go.Proofs.YtchhognpijobcaaW.PrintLast Go.Proofs.YtchhognpijobcaaW.PrintMore
attribute [local go_sem] max2_int min2_int max_two min_two max_three min_three max_four min_four   -- for this text's walks alone
set_option linter.unusedVariables false
set_option linter.unusedSimpArgs false

/-! ### impl_number: function 103 -/
def impl_number.f (k : Nat) (a0 : ByteArray) : Option (Int × Bool) := (impl_digits.f k a0 9).bind fun bt464 => (some (bt464.1, bt464.2))
set_option maxHeartbeats 8000000 in
set_option maxRecDepth 100000 in
theorem impl_number.calls (k : Nat) (a0 : ByteArray) (r1 : Int) (r2 : Bool) (w : World) (h : impl_number.f k a0 = some (r1, r2)) :
    Calls Try.prog 103 #[.string a0] w fun e w' => e = .returned (.tuple #[.int .i64 r1, .bool r2]) ∧ Drawn0 w w' := by
  have H : ((impl_digits.f k a0 9).bind fun bt464 => (some (bt464.1, bt464.2))) = some (r1, r2) := h
  clear h
  replace H := Option.bind_eq_some_iff.mp H
  obtain ⟨⟨t464, t465⟩, A20, H⟩ := H
  replace H : (some (t464, t465)) = some (r1, r2) := H
  have A2 := Aside0.mk A20
  clear A20
  simp only [Option.some.injEq, Prod.mk.injEq] at H
  obtain ⟨rfl, rfl⟩ := H
  go_enter Try.func103, Try.ntmps103
  go_wp2_with (first | ((with_reducible refine gate_callee (f := 116) rfl ?_); refine goesL_ (some 5) rfl rfl Try.func116 (by kernel_rfl) rfl #[.string a0, .int .i64 9] rfl (by (try simp only [List.map_toArray, List.map_cons, List.map_nil]); first | done | rfl | (simp only [List.length_drop, List.length_take]; rfl)) ?_; (with_reducible refine (impl_digits.calls k a0 9 t464 t465 _ A2.out).mono ?_); rintro e w' ⟨rfl, ⟨nd, rfl⟩⟩; refine ⟨_, rfl, ?_⟩))
  go_ret2
  exact ⟨by first | rfl | (simp; done) | (simp [*]; done), by repeat (first | exact Drawn0.refl _ | apply Drawn0.step)⟩

end Go.Proofs.Ytchhognpijobcaa.G

/- G100 -/
-- Laid by wip/g/gprint.py out of the translation, by the kit's print program. Lean checks it.
namespace Go.Proofs.Ytchhognpijobcaa.G
open Go.RowKit Go.Proofs.YtchhognpijobcaaW.PrintWords Go.Proofs.YtchhognpijobcaaW.PrintLast Go.Proofs.YtchhognpijobcaaW.PrintMore
attribute [local go_sem] max2_int min2_int max_two min_two max_three min_three max_four min_four   -- for this text's walks alone
set_option linter.unusedVariables false
set_option linter.unusedSimpArgs false

/-! ### impl_isNumber: function 100 -/
end Go.Proofs.Ytchhognpijobcaa.G

/- PNum -/
/-
  Numbers in decimal digits: the reference's l4Number, the program's number.
-/
namespace Go.Proofs.Ytchhognpijobcaa.G
open Go.RowKit Go.Proofs.YtchhognpijobcaaW.PrintWords Go.Proofs.YtchhognpijobcaaW.PrintLast Go.Proofs.YtchhognpijobcaaW.PrintMore
set_option linter.unusedVariables false
set_option linter.unusedSimpArgs false
theorem toList_nil {s : ByteArray} : s.toList = [] ↔ s.size = 0 := by
  rw [ByteArray.toList_eq]
  constructor
  · intro h
    have : s.data.size = 0 := by rw [← Array.length_toList, h]; rfl
    exact this
  · intro h
    have h : s.data.size = 0 := h
    rw [← List.length_eq_zero_iff, Array.length_toList]; exact h
def dig (s : ByteArray) (i : Nat) : Int := (bt s i - 48) % 256
def digB (s : ByteArray) (i : Nat) : Bool := inB (bt s i) 48 57
def valI (s : ByteArray) : Nat → Int
  | 0 => 0
  | i + 1 => valI s i * 10 + dig s i
theorem valI_bound (s : ByteArray) : ∀ i, 0 ≤ valI s i ∧ valI s i ≤ 29 * ((10 ^ i : Nat) : Int) - 29
  | 0 => by simp [valI]
  | i + 1 => by
    obtain ⟨h0, h1⟩ := valI_bound s i
    rw [valI, Nat.pow_succ]
    unfold dig
    omega
theorem pow_le9 {i : Nat} (h : i ≤ 9) : (10 ^ i : Nat) ≤ 1000000000 := Nat.pow_le_pow_right (n := 10) (by omega) h
theorem find_const {α : Type} (n : Nat) (ok : Nat → Bool) (a b : α) : ((List.range n).find? (fun i => !ok i)).elim a (fun _ => b) = if allN n ok = true then a else b := by
  cases h : (List.range n).find? (fun i => !ok i) with
  | none =>
    have : allN n ok = true := by
      rw [allN_true]
      intro i hi
      have := List.find?_eq_none.1 h i (by simpa using hi)
      simpa using this
    rw [if_pos this]; rfl
  | some i =>
    have h1 := List.find?_some h
    have h2 := List.mem_of_find?_eq_some h
    have : ¬ allN n ok = true := by
      rw [allN_true]
      intro hh
      rw [hh i (by simpa using h2)] at h1
      simp at h1
    rw [if_neg this]; rfl
def numB (s : ByteArray) : Bool := inB s.size 1 9 && (!(decide ((s.size : Int) > 1) && bt s 0 == 48) && allN s.size (digB s))
def numR (s : ByteArray) : Int := if numB s = true then valI s s.size else -1
theorem numR_bound (s : ByteArray) : -1 ≤ numR s ∧ numR s ≤ 29000000000 := by
  unfold numR
  split
  · rename_i h
    have h1 := valI_bound s s.size
    have hb : inB s.size 1 9 = true := by unfold numB at h; rw [Bool.and_eq_true] at h; exact h.1
    have := inB_true hb
    have := pow_le9 (i := s.size) (by omega)
    omega
  · omega
theorem l4Number_ev (s : ByteArray) (hs : s.size ≤ 9223372036854775807) : Ev (fun k => spec_l4Number.f k s) (numR s) := by
  unfold spec_l4Number.f
  simp only [l1In_f, Option.bind_some]
  have bad : ∀ b : Bool, b = true → numB s = false → Ev (fun k => spec_l4Number.j0 k s 0 b) (numR s) := fun b hb h => by
    unfold numR
    rw [h, if_neg Bool.false_ne_true]
    exact Ev.step (fun k => by rw [spec_l4Number.j0]) (ev_if_pos hb (Ev.now _))
  cases hr : inB s.size 1 9 with
  | false => exact ev_if_neg Bool.false_ne_true (bad _ rfl (by simp [numB, hr]))
  | true =>
    have h9 := inB_true hr
    refine ev_if_pos rfl ?_
    have good : ∀ b : Bool, b = (decide ((s.size : Int) > 1) && bt s 0 == 48) → Ev (fun k => spec_l4Number.j0 k s 0 b) (numR s) := by
      intro b hb
      cases b with
      | true => exact bad true rfl (by unfold numB; rw [← hb]; simp)
      | false =>
        refine Ev.step (fun k => by rw [spec_l4Number.j0]) (ev_if_neg Bool.false_ne_true ?_)
        have := loop_find (g := fun k i => spec_l4Number.l0 k s (valI s i.toNat) i) s.size (fun i => !digB s i) (fun _ => (-1 : Int)) (valI s s.size) ?_ ?_ ?_
        · rw [find_const] at this
          refine ev_rw this ?_
          unfold numR numB
          rw [hr, ← hb]
          simp
        · intro i hi hok r hr2
          have hb1 := valI_bound s i
          have hb2 := pow_le9 (i := i) (by omega)
          refine Ev.step (fun k => by rw [spec_l4Number.l0]) ?_
          simp only [Int.toNat_natCast, wsucc hi hs, l1In_f, Option.bind_some] at hr2 ⊢
          have hw : wrap64 (bt s i) = bt s i := w64 (by have := bt_lo s i; omega) (by have := bt_hi s i; omega)
          have hd : 0 ≤ dig s i ∧ dig s i ≤ 255 := by unfold dig; omega
          have he : wrap64 (wrap64 (valI s i * 10) + (bt s i - 48) % 256) = valI s (i + 1) := by
            rw [valI]
            show wrap64 (wrap64 (valI s i * 10) + dig s i) = _
            rw [w64 (x := valI s i * 10) (by omega) (by omega), w64 (by omega) (by omega)]
          rw [hw, he]
          exact ev_if_pos (by omega) (ev_if_pos (by omega) (ev_if_pos (by simpa [digB] using hok) hr2))
        · intro i hi hok
          refine Ev.step (fun k => by rw [spec_l4Number.l0]) ?_
          simp only [Int.toNat_natCast, l1In_f, Option.bind_some]
          have hw : wrap64 (bt s i) = bt s i := w64 (by have := bt_lo s i; omega) (by have := bt_hi s i; omega)
          rw [hw]
          exact ev_if_pos (by omega) (ev_if_pos (by omega) (ev_if_neg (by simpa [digB] using hok) (Ev.now _)))
        · refine Ev.step (fun k => by rw [spec_l4Number.l0]) (ev_if_neg (by omega) ?_)
          simp only [Int.toNat_natCast]
          exact Ev.now _
    by_cases c : (s.size : Int) > 1
    · exact ev_if_pos c (ev_if_pos (by omega) (good _ (by simp [c])))
    · exact ev_if_neg c (good _ (by simp [c]))
theorem implDigits_ev (s : ByteArray) (hs : s.size ≤ 9223372036854775807) : Ev (fun k => impl_digits.f k s 9) (if numB s = true then (valI s s.size, true) else (0, false)) := by
  unfold impl_digits.f
  have bad : ∀ b : Bool, b = true → numB s = false → Ev (fun k => impl_digits.j0 k s b) (if numB s = true then (valI s s.size, true) else (0, false)) := fun b hb h => by
    rw [h, if_neg Bool.false_ne_true]
    exact Ev.step (fun k => by rw [impl_digits.j0]) (ev_if_pos hb (Ev.now _))
  by_cases c0 : s.toList = []
  · have := toList_nil.1 c0
    exact ev_if_pos c0 (bad _ rfl (by unfold numB inB; rw [decide_eq_false (by omega)]; simp))
  · have hne : s.size ≠ 0 := fun h => c0 (toList_nil.2 h)
    refine ev_if_neg c0 ?_
    by_cases c1 : (s.size : Int) > 9
    · exact ev_if_pos c1 (bad _ rfl (by unfold numB inB; rw [decide_eq_false (by omega)]; simp))
    · refine ev_if_neg c1 (ev_if_pos (by omega) ?_)
      have hr : inB s.size 1 9 = true := by unfold inB; rw [decide_eq_true_iff]; omega
      have good : ∀ b : Bool, b = (decide ((s.size : Int) > 1) && bt s 0 == 48) → Ev (fun k => impl_digits.j0 k s b) (if numB s = true then (valI s s.size, true) else (0, false)) := by
        intro b hb
        cases b with
        | true => exact bad true rfl (by unfold numB; rw [← hb]; simp)
        | false =>
          refine Ev.step (fun k => by rw [impl_digits.j0]) (ev_if_neg Bool.false_ne_true ?_)
          have := loop_find (g := fun k i => impl_digits.l0 k s (valI s i.toNat) s.size i) s.size (fun i => !digB s i) (fun _ => ((0 : Int), false)) (valI s s.size, true) ?_ ?_ ?_
          · rw [find_const] at this
            refine ev_rw this ?_
            unfold numB
            rw [hr, ← hb]
            simp
          · intro i hi hok r hr2
            have hb1 := valI_bound s i
            have hb2 := pow_le9 (i := i) (by omega)
            have hdb : 48 ≤ bt s i ∧ bt s i ≤ 57 := inB_true (by simpa [digB] using hok)
            refine Ev.step (fun k => by rw [impl_digits.l0]) ?_
            simp only [Int.toNat_natCast, wsucc hi hs] at hr2 ⊢
            have hd : 0 ≤ dig s i ∧ dig s i ≤ 255 := by unfold dig; omega
            have he : wrap64 (wrap64 (10 * valI s i) + (bt s i - 48) % 256) = valI s (i + 1) := by
              rw [valI]
              show wrap64 (wrap64 (10 * valI s i) + dig s i) = _
              rw [w64 (x := 10 * valI s i) (by omega) (by omega), w64 (by omega) (by omega)]; omega
            rw [he]
            exact ev_if_pos (by omega) (ev_if_pos (by omega) (ev_if_pos (by omega) (ev_if_neg (by omega) (ev_if_neg (by omega) hr2))))
          · intro i hi hok
            have hdb : ¬ (48 ≤ bt s i ∧ bt s i ≤ 57) := by
              intro h
              have : digB s i = true := by unfold digB inB; exact decide_eq_true h
              rw [this] at hok; simp at hok
            refine Ev.step (fun k => by rw [impl_digits.l0]) ?_
            refine ev_if_pos (by omega) (ev_if_pos (by omega) (ev_if_pos (by omega) (ev_if (fun c => Ev.now _) (fun c => ev_if_pos (by omega) (Ev.now _)))))
          · refine Ev.step (fun k => by rw [impl_digits.l0]) (ev_if_neg (by omega) ?_)
            simp only [Int.toNat_natCast]
            exact Ev.now _
      by_cases c : bt s 0 = 48
      · exact ev_if_pos c (good _ (by simp [c]))
      · exact ev_if_neg c (good _ (by simp [c]))
theorem implNumber_ev (s : ByteArray) (hs : s.size ≤ 9223372036854775807) : Ev (fun k => impl_number.f k s) (if numB s = true then (valI s s.size, true) else (0, false)) := by
  unfold impl_number.f
  exact Ev.bind (implDigits_ev s hs) (Ev.now _)
end Go.Proofs.Ytchhognpijobcaa.G

/- PReachB -/
/-
  Kids of a value that is right, by paths.
-/
namespace Go.Proofs.Ytchhognpijobcaa.G
open Go.RowKit Go.Proofs.YtchhognpijobcaaW.PrintWords Go.Proofs.YtchhognpijobcaaW.PrintLast Go.Proofs.YtchhognpijobcaaW.PrintMore
set_option linter.unusedVariables false
set_option linter.unusedSimpArgs false
def keyIx (ks : List ByteArray) (s : ByteArray) : Int := ((List.range ks.length).find? (fun i : Nat => decide ((rdOf ByteArray.empty ks i).toList = s.toList))).elim (-1) (fun i => (i : Int))
theorem keyIx_bounds (ks : List ByteArray) (s : ByteArray) : -1 ≤ keyIx ks s ∧ keyIx ks s < ks.length := by
  unfold keyIx
  cases hf : (List.range ks.length).find? (fun i : Nat => decide ((rdOf ByteArray.empty ks i).toList = s.toList)) with
  | none => simp only [Option.elim_none]; omega
  | some i =>
    have := List.mem_of_find?_eq_some hf
    rw [List.mem_range] at this
    simp only [Option.elim_some]; omega
def stepI (x : IVal) (s : ByteArray) : Int := if x.f0 = 5 then keyIx x.f3 s else if x.f0 = 4 then (if numR s < x.f4.length then numR s else -1) else -1
theorem sumL_all (m : IVal → Nat) : ∀ (ys : List IVal) (n : Nat), sumL m n ys ≠ 0 → ∀ y ∈ ys, m y ≠ 0
  | [], n, _, y, hy => by cases hy
  | z :: ys, n, h, y, hy => by
    rw [sumL] at h
    by_cases c : m z = 0 ∨ n + m z > 300
    · rw [if_pos c] at h; exact absurd rfl h
    · rw [if_neg c] at h
      rcases List.mem_cons.1 hy with rfl | hy
      · exact fun h0 => c (.inl h0)
      · exact sumL_all m ys _ h y hy
theorem look_shape {r : Nat} {x : IVal} (h : lookN (r + 1) x ≠ 0) : shB x = true ∧ ∀ y ∈ x.f4, lookN r y ≠ 0 := by
  rw [lookN] at h
  by_cases c : shB x = true
  · rw [if_pos c] at h
    exact ⟨c, sumL_all _ _ _ h⟩
  · rw [if_neg c] at h; exact absurd rfl h
theorem step_bounds {r : Nat} {x : IVal} (h : lookN (r + 1) x ≠ 0) (s : ByteArray) : -1 ≤ stepI x s ∧ stepI x s < x.f4.length := by
  obtain ⟨c, _⟩ := look_shape h
  have hb := numR_bound s
  unfold stepI
  by_cases c5 : x.f0 = 5
  · rw [if_pos c5]
    unfold shB at c
    rw [if_neg (by omega), if_neg (by omega), if_neg (by omega), if_neg (by omega), if_pos c5] at c
    simp only [Bool.and_eq_true, beq_iff_eq] at c
    have := keyIx_bounds x.f3 s
    omega
  · rw [if_neg c5]
    by_cases c4 : x.f0 = 4
    · rw [if_pos c4]; split <;> omega
    · rw [if_neg c4]; omega
def reachV : IVal → List ByteArray → Option IVal
  | x, [] => some x
  | x, s :: p => if 0 ≤ stepI x s then (x.f4[(stepI x s).toNat]?).bind (fun y => reachV y p) else none
theorem smI_up : ∀ {n : Nat} {x : IVal}, SmI n x → SmI (n + 1) x
  | 0, x, h => by rw [SmI] at h; exact h.elim
  | n + 1, x, h => by
    rw [SmI] at h ⊢
    exact ⟨h.1, h.2.1, h.2.2.1, h.2.2.2.1, fun y hy => smI_up (h.2.2.2.2 y hy)⟩
theorem reachV_sm : ∀ (p : List ByteArray) (n : Nat) (x y : IVal), SmI n x → reachV x p = some y → SmI n y
  | [], n, x, y, h, he => by
    obtain rfl := Option.some.inj he
    exact h
  | s :: p, n, x, y, h, he => by
    rw [reachV] at he
    by_cases c : 0 ≤ stepI x s
    · rw [if_pos c] at he
      obtain ⟨z, hz, hy⟩ := Option.bind_eq_some_iff.1 he
      obtain ⟨m, rfl, _, _, _, hk⟩ := smI_parts h
      exact smI_up (reachV_sm p m z y (hk z (List.mem_of_getElem? hz)) hy)
    · rw [if_neg c] at he; cases he
end Go.Proofs.Ytchhognpijobcaa.G

/- G102 -/
-- Laid by wip/g/gprint.py out of the translation, by the kit's print program. Lean checks it.
namespace Go.Proofs.Ytchhognpijobcaa.G
open Go.RowKit Go.Proofs.YtchhognpijobcaaW.PrintWords Go.Proofs.YtchhognpijobcaaW.PrintLast Go.Proofs.YtchhognpijobcaaW.PrintMore
attribute [local go_sem] max2_int min2_int max_two min_two max_three min_three max_four min_four   -- for this text's walks alone
set_option linter.unusedVariables false
set_option linter.unusedSimpArgs false

/-! ### slices_Index_string_string: function 102 -/
def slices_Index_string_string.l0 : Nat → List ByteArray → ByteArray → Int → Int → Option (Int)
  | 0, _, _, _, _ => none
  | k + 1, x0, x1, x7, x8 => if x8 < x7 then (if 0 ≤ x8 then (if x8 < (x0.length : Int) then (if x1.toList = (rdOf ByteArray.empty x0 x8).toList then (some x8) else (slices_Index_string_string.l0 k x0 x1 x7 (wrap64 (x8 + 1)))) else (none)) else (none)) else (some (-1))
def slices_Index_string_string.f (k : Nat) (l0 : List ByteArray) (a1 : ByteArray) : Option (Int) := slices_Index_string_string.l0 k l0 a1 (l0.length : Int) 0
set_option maxHeartbeats 8000000 in
set_option maxRecDepth 100000 in
theorem slices_Index_string_string.calls (k : Nat) (A0 : Option Addr) (c0 : Nat) (l0 : List ByteArray) (a1 : ByteArray) (r : Int) (w : World) (hr0 : Kd.C Kd.string w A0 l0.length l0) (hc0 : l0.length ≤ c0) (h : slices_Index_string_string.f k l0 a1 = some r) :
    Calls Try.prog 102 #[.slice A0 l0.length c0, .string a1] w fun e w' => e = .returned (.int .i64 r) ∧ Drawn0 w w' := by
  have HR0 := Aside0.mk hr0
  have HC0 := Aside0.mk hc0
  clear hr0 hc0
  have H : (slices_Index_string_string.l0 k l0 a1 (l0.length : Int) 0) = some r := h
  clear h
  have H' := Aside0.mk H
  clear H
  go_enter Try.func102, Try.ntmps102
  go_wp2
  go_loopg [8] k (fun kq v8 w' => ∃ (x8_1 : Int), v8 = .int .i64 x8_1 ∧ Aside0 (slices_Index_string_string.l0 kq l0 a1 (l0.length : Int) x8_1 = some r) ∧ Aside0 (kq ≤ k) ∧ Drawn0 w w')
  case atStart => exact ⟨(0), (by first | rfl | (simp; done) | (simp [*]; done)), H', ⟨Nat.le_refl _⟩, by repeat (first | exact Drawn0.refl _ | apply Drawn0.step)⟩
  case round =>
    clear H'
    try clear c1
    try clear p2
    obtain ⟨x8_1, rfl, HA, HK1, ⟨m1, rfl⟩⟩ := hrel
    cases gk with
    | zero => exact absurd HA.out (by simp [slices_Index_string_string.l0])
    | succ k1 =>
      have H := HA.out
      clear HA
      simp only [slices_Index_string_string.l0] at H
      by_cases c3 : x8_1 < (l0.length : Int)
      · rw [if_pos c3] at H
        have c3b0 : decide (x8_1 < (l0.length : Int)) = true := decide_eq_true c3
        clear c3
        by_cases c4 : 0 ≤ x8_1
        · rw [if_pos c4] at H
          have c4b0 : decide (0 ≤ x8_1) = true := decide_eq_true c4
          clear c4
          by_cases c5 : x8_1 < (l0.length : Int)
          · rw [if_pos c5] at H
            have c5b0 : decide (x8_1 < (l0.length : Int)) = true := decide_eq_true c5
            clear c5
            by_cases c6 : a1.toList = (rdOf ByteArray.empty l0 x8_1).toList
            · rw [if_pos c6] at H
              have c6b0 : (a1.toList == (rdOf ByteArray.empty l0 x8_1).toList) = true := beq_iff_eq.mpr c6
              have c6b1 : (a1.toList != (rdOf ByteArray.empty l0 x8_1).toList) = false := bne_eq_false_iff_eq.mpr c6
              clear c6
              obtain rfl := Option.some.inj H
              have p551 : 0 ≤ (x8_1 : Int) := of_decide_eq_true (by first | (with_reducible assumption) | assumption)
              have q551 : x8_1 < (l0.length : Int) := of_decide_eq_true (by first | (with_reducible assumption) | assumption)
              obtain ⟨ad551, e551, hx551_0⟩ := Kd.at_string HR0.out x8_1 p551 q551
              cases e551
              replace p551 := eq_true p551
              replace q551 := eq_true q551
              go_wp2
              go_ret
              exact ⟨by first | rfl | (simp; done) | (simp [*]; done), by repeat (first | exact Drawn0.refl _ | apply Drawn0.step)⟩
            · rw [if_neg c6] at H
              have c6b0 : (a1.toList == (rdOf ByteArray.empty l0 x8_1).toList) = false := beq_eq_false_iff_ne.mpr c6
              have c6b1 : (a1.toList != (rdOf ByteArray.empty l0 x8_1).toList) = true := bne_iff_ne.mpr c6
              have H' := Aside0.mk H
              clear H
              have p551 : 0 ≤ (x8_1 : Int) := of_decide_eq_true (by first | (with_reducible assumption) | assumption)
              have q551 : x8_1 < (l0.length : Int) := of_decide_eq_true (by first | (with_reducible assumption) | assumption)
              obtain ⟨ad551, e551, hx551_0⟩ := Kd.at_string HR0.out x8_1 p551 q551
              cases e551
              replace p551 := eq_true p551
              replace q551 := eq_true q551
              go_wp2
              go_roundg k1
              case measure => have := HK1.out; omega
              case rel => exact ⟨(wrap64 (x8_1 + 1)), (by first | rfl | (simp; done) | (simp [*]; done)), H', ⟨by have := HK1.out; omega⟩, by repeat (first | exact Drawn0.refl _ | apply Drawn0.step)⟩
          · rw [if_neg c5] at H
            exact absurd H (by simp)
        · rw [if_neg c4] at H
          exact absurd H (by simp)
      · rw [if_neg c3] at H
        have c3b0 : decide (x8_1 < (l0.length : Int)) = false := decide_eq_false c3
        clear c3
        obtain rfl := Option.some.inj H
        go_wp2
        go_ret
        exact ⟨by first | rfl | (simp; done) | (simp [*]; done), by repeat (first | exact Drawn0.refl _ | apply Drawn0.step)⟩

end Go.Proofs.Ytchhognpijobcaa.G
