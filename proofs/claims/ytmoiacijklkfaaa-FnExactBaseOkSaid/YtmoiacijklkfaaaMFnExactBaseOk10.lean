import Derived.Test.YtmoiacijklkfaaaMFnExactBaseOk4
import Derived.Test.YtmoiacijklkfaaaMFnExactBaseOk6
import Derived.Test.YtmoiacijklkfaaaMFnExactBaseOk7
import Derived.Test.YtmoiacijklkfaaaMFnExactBaseOk8
import Derived.Test.YtmoiacijklkfaaaMFnExactBaseOk9
import Derived.Test.YtmoiacijklkfaaaMFnExactBaseOk1
import Derived.Test.YtmoiacijklkfaaaMFnExactBaseOk5
import Derived.Laws.IdiomCopy
import Derived.Deep.AppendSrc
import Derived.Lib.AppendZeros
import Derived.Lib.Overlaps
import Derived.Laws.Externs
import Derived.Shelf.Spec.SlicesInsert
/- PValueOk -/
/-
  Values that are right, and their size; the laws of ValueOk and SizeOf.
-/
namespace Go.Proofs.Ytmoiacijklkfaaa.G
open Go.RowKit Go.Proofs.YtmoiacijklkfaaaW.PrintWords Go.Proofs.YtmoiacijklkfaaaW.PrintLast Go.Proofs.YtmoiacijklkfaaaW.PrintMore
set_option linter.unusedVariables false
set_option linter.unusedSimpArgs false
def emp (s : ByteArray) : Bool := decide (s.toList = [])
def textB (s : ByteArray) : Bool := allN s.size (fun i => inB (bt s i) 32 126) && decide ((s.size : Int) ≤ 100)
theorem wbt (s : ByteArray) (i : Int) : wrap64 (bt s i) = bt s i := w64 (by have := bt_lo s i; omega) (by have := bt_hi s i; omega)
theorem l4Text_ev (s : ByteArray) (h : s.size ≤ 9223372036854775807) : Ev (fun k => spec_l4Text.f k s) (textB s) := by
  unfold spec_l4Text.f textB
  refine loop_all (g := fun k i => spec_l4Text.l0 k s i) s.size _ _ ?_ ?_ ?_
  · intro i hi hok r hr
    refine Ev.step (fun k => by rw [spec_l4Text.l0]) ?_
    simp only [wsucc hi h, wbt, l1In_f, Option.bind_some]
    exact ev_if_pos (by omega) (ev_if_pos (by omega) (ev_if_pos hok hr))
  · intro i hi hok
    refine Ev.step (fun k => by rw [spec_l4Text.l0]) ?_
    simp only [wbt, l1In_f, Option.bind_some]
    exact ev_if_pos (by omega) (ev_if_pos (by omega) (ev_if_neg (by rw [hok]; exact Bool.false_ne_true) (Ev.now _)))
  · exact Ev.step (fun k => by rw [spec_l4Text.l0]) (ev_if_neg (by omega) (Ev.now _))
theorem l4Keys_ev (x : IVal) (h : wfStrs x.f3) : Ev (fun k => spec_l4Keys.f k x.f0 x.f1 x.f2 x.f3 x.f4) (namsB x.f3 && ((x.f3.length : Int) == (x.f4.length : Int))) := by
  unfold spec_l4Keys.f namsB
  refine loop_all (g := fun k i => spec_l4Keys.l0 k i x.f0 x.f1 x.f2 x.f3 x.f4) x.f3.length _ _ ?_ ?_ ?_
  · intro i hi hok r hr
    refine Ev.step (fun k => by rw [spec_l4Keys.l0]) ?_
    simp only [wsucc hi h.1]
    refine ev_if_pos (by omega) (ev_if_pos (by omega) (Ev.bind (specNameOk_ev _ (wfStrs_at h hi)) (ev_if_pos (namOk_name hok) (ev_if (fun c => ?_) (fun c => hr)))))
    simp only [wpred (by omega : 0 < i) hi h.1]
    exact ev_if_pos (by omega) (ev_if_pos (by omega) (ev_if_pos (namOk_less hok (by omega)) hr))
  · intro i hi hok
    refine Ev.step (fun k => by rw [spec_l4Keys.l0]) ?_
    refine ev_if_pos (by omega) (ev_if_pos (by omega) (Ev.bind (specNameOk_ev _ (wfStrs_at h hi)) (ev_if (fun c0 => ?_) (fun _ => Ev.now _))))
    obtain ⟨h0, hl⟩ := namOk_false hok c0
    simp only [wpred h0 hi h.1]
    exact ev_if_pos (by omega) (ev_if_pos (by omega) (ev_if_pos (by omega) (ev_if_neg (by rw [hl]; simp) (Ev.now _))))
  · exact Ev.step (fun k => by rw [spec_l4Keys.l0]) (ev_if_neg (by omega) (Ev.now _))
/-- A shape that is right, by kinds. -/
def shB (x : IVal) : Bool :=
  if x.f0 = 1 then textB x.f1 && (x.f2 == 0 && ((x.f3.length : Int) == 0 && (x.f4.length : Int) == 0))
  else if x.f0 = 2 then emp x.f1 && ((x.f3.length : Int) == 0 && (x.f4.length : Int) == 0)
  else if x.f0 = 3 then emp x.f1 && (inB x.f2 0 1 && ((x.f3.length : Int) == 0 && (x.f4.length : Int) == 0))
  else if x.f0 = 4 then emp x.f1 && (x.f2 == 0 && (x.f3.length : Int) == 0)
  else if x.f0 = 5 then emp x.f1 && (x.f2 == 0 && (namsB x.f3 && (x.f3.length : Int) == (x.f4.length : Int)))
  else false
theorem implShapeOk_ev (x : IVal) (h1 : x.f1.size ≤ 9223372036854775807) (h3 : wfStrs x.f3) :
    Ev (fun k => impl_shapeOk.f k x.f0 x.f1 x.f2 x.f3 x.f4) (shB x && decide (x.f0 ≠ 5 ∨ (x.f3.length : Int) ≤ 300)) := by
  unfold impl_shapeOk.f shB
  by_cases c1 : x.f0 = 1
  · rw [if_pos c1, decide_eq_true (by omega : x.f0 ≠ 5 ∨ (x.f3.length : Int) ≤ 300), Bool.and_true, textB, Bool.and_assoc]
    refine ev_if_pos c1 ?_
    refine loop_all (g := fun k i => impl_shapeOk.l0 k (x.f2 == 0) ((x.f3.length : Int) == 0) ((x.f4.length : Int) == 0) x.f1.size i x.f0 x.f1 x.f2 x.f3 x.f4) x.f1.size _ _ ?_ ?_ ?_
    · intro i hi hok r hr
      refine Ev.step (fun k => by rw [impl_shapeOk.l0]) ?_
      simp only [wsucc hi h1, wbt, within_f, Option.bind_some]
      exact ev_if_pos (by omega) (ev_if_pos (by omega) (ev_if_pos (by omega) (ev_if_pos hok hr)))
    · intro i hi hok
      refine Ev.step (fun k => by rw [impl_shapeOk.l0]) ?_
      simp only [wbt, within_f, Option.bind_some]
      exact ev_if_pos (by omega) (ev_if_pos (by omega) (ev_if_pos (by omega) (ev_if_neg (by rw [hok]; exact Bool.false_ne_true) (Ev.now _))))
    · refine Ev.step (fun k => by rw [impl_shapeOk.l0]) (ev_if_neg (by omega) (ev_now ?_))
      generalize (x.f3.length : Int) = n3
      generalize (x.f4.length : Int) = n4
      cases (x.f2 == 0) <;> cases (n3 == 0) <;> by_cases c : (x.f1.size : Int) ≤ 100 <;> simp [c]
  · by_cases c2 : x.f0 = 2
    · rw [if_neg c1, if_pos c2, decide_eq_true (by omega : x.f0 ≠ 5 ∨ (x.f3.length : Int) ≤ 300), Bool.and_true]
      refine ev_if_neg c1 (ev_if_pos c2 (ev_now ?_))
      unfold emp
      generalize (x.f3.length : Int) = n3
      generalize (x.f4.length : Int) = n4
      by_cases d1 : x.f1.toList = [] <;> by_cases d2 : n3 = 0 <;> simp [d1, d2]
    · by_cases c3 : x.f0 = 3
      · rw [if_neg c1, if_neg c2, if_pos c3, decide_eq_true (by omega : x.f0 ≠ 5 ∨ (x.f3.length : Int) ≤ 300), Bool.and_true]
        simp only [within_f, Option.bind_some]
        refine ev_if_neg c1 (ev_if_neg c2 (ev_if_pos c3 (ev_now ?_)))
        unfold emp
        generalize (x.f3.length : Int) = n3
        generalize (x.f4.length : Int) = n4
        by_cases d1 : x.f1.toList = [] <;> by_cases d2 : n3 = 0 <;> cases inB x.f2 0 1 <;> simp [d1, d2]
      · by_cases c4 : x.f0 = 4
        · rw [if_neg c1, if_neg c2, if_neg c3, if_pos c4, decide_eq_true (by omega : x.f0 ≠ 5 ∨ (x.f3.length : Int) ≤ 300), Bool.and_true]
          refine ev_if_neg c1 (ev_if_neg c2 (ev_if_neg c3 (ev_if_pos c4 (ev_now ?_))))
          unfold emp
          generalize (x.f3.length : Int) = n3
          generalize (x.f4.length : Int) = n4
          by_cases d1 : x.f1.toList = [] <;> by_cases d2 : n3 = 0 <;> by_cases d3 : x.f2 = 0 <;> simp [d1, d2, d3]
        · by_cases c5 : x.f0 = 5
          · rw [if_neg c1, if_neg c2, if_neg c3, if_neg c4, if_pos c5]
            refine ev_if_neg c1 (ev_if_neg c2 (ev_if_neg c3 (ev_if_neg c4 (ev_if_pos c5 (Ev.bind (namesOk_ev x.f3 300 h3) (ev_now ?_))))))
            have e : decide (x.f0 ≠ 5 ∨ (x.f3.length : Int) ≤ 300) = decide ((x.f3.length : Int) ≤ 300) := by rw [decide_eq_decide]; omega
            rw [e]
            clear e
            unfold emp
            generalize (x.f3.length : Int) = n3
            generalize (x.f4.length : Int) = n4
            by_cases d1 : x.f1.toList = [] <;> by_cases d2 : n3 = n4 <;> by_cases d3 : x.f2 = 0 <;> cases namsB x.f3 <;> by_cases d4 : n3 ≤ 300 <;> (try subst d2) <;> simp [*]
          · rw [if_neg c1, if_neg c2, if_neg c3, if_neg c4, if_neg c5, Bool.false_and]
            exact ev_if_neg c1 (ev_if_neg c2 (ev_if_neg c3 (ev_if_neg c4 (ev_if_neg c5 (Ev.now _)))))
/-- Sizes of kids, added up; 0 where one is not right, or it is too much. -/
def sumL (m : IVal → Nat) : Nat → List IVal → Nat
  | n, [] => n
  | n, y :: ys => if m y = 0 ∨ n + m y > 300 then 0 else sumL m (n + m y) ys
theorem sumL_bad {m : IVal → Nat} {n : Nat} {y : IVal} {ys : List IVal} (h : m y = 0 ∨ n + m y > 300) : sumL m n (y :: ys) = 0 := by rw [sumL, if_pos h]
theorem sumL_good {m : IVal → Nat} {n : Nat} {y : IVal} {ys : List IVal} (h : ¬ (m y = 0 ∨ n + m y > 300)) : sumL m n (y :: ys) = sumL m (n + m y) ys := by rw [sumL, if_neg h]
def lookN : Nat → IVal → Nat
  | 0, _ => 0
  | r + 1, x => if shB x = true then sumL (lookN r) 1 x.f4 else 0
theorem sumL_bounds (m : IVal → Nat) : ∀ (ys : List IVal) (n : Nat), n ≤ 300 → sumL m n ys = 0 ∨ (n + ys.length ≤ sumL m n ys ∧ sumL m n ys ≤ 300)
  | [], n, h => .inr ⟨by simp [sumL], by simpa [sumL] using h⟩
  | y :: ys, n, h => by
    rw [sumL]
    by_cases c : m y = 0 ∨ n + m y > 300
    · rw [if_pos c]; exact .inl rfl
    · rw [if_neg c]
      rcases sumL_bounds m ys (n + m y) (by omega) with h1 | ⟨h1, h2⟩
      · exact .inl h1
      · refine .inr ⟨?_, h2⟩
        rw [List.length_cons]; omega
theorem lookN_le (r : Nat) (x : IVal) : lookN r x ≤ 300 := by
  cases r with
  | zero => simp [lookN]
  | succ r =>
    rw [lookN]
    split
    · rcases sumL_bounds (lookN r) x.f4 1 (by omega) with h | h <;> omega
    · omega
theorem l4Look_j1 (x : IVal) (n : Nat) (h1 : x.f1.size ≤ 9223372036854775807) (h3 : wfStrs x.f3) (b : Bool) (hb : b = ((x.f3.length : Int) == 0 && (x.f4.length : Int) == 0)) :
    Ev (fun k => spec_l4Look.j1 k n b x.f0 x.f1 x.f2 x.f3 x.f4) (if shB x = true then (n : Int) else 0) := by
  subst hb
  refine Ev.step (fun k => by rw [spec_l4Look.j1]) ?_
  unfold shB
  by_cases c1 : x.f0 = 1
  · refine ev_if_pos c1 ?_
    rw [if_pos c1]
    cases hb : ((x.f3.length : Int) == 0 && (x.f4.length : Int) == 0) with
    | false => exact ev_if_neg Bool.false_ne_true (ev_some (by simp))
    | true =>
      refine ev_if_pos rfl ?_
      by_cases c : x.f2 = 0
      · refine ev_if_pos c (Ev.bind (l4Text_ev _ h1) (ev_now ?_))
        rw [c]; cases textB x.f1 <;> simp
      · refine ev_if_neg c (ev_some ?_)
        simp [c]
  · by_cases c2 : x.f0 = 2
    · refine ev_if_neg c1 (ev_if_pos c2 (ev_now ?_))
      rw [if_neg c1, if_pos c2]
      unfold emp
      generalize (x.f3.length : Int) = n3
      generalize (x.f4.length : Int) = n4
      cases (n3 == 0 && n4 == 0) <;> by_cases d : x.f1.toList = [] <;> simp [d]
    · by_cases c3 : x.f0 = 3
      · refine ev_if_neg c1 (ev_if_neg c2 (ev_if_pos c3 (ev_now ?_)))
        simp only [l1In_f, Option.bind_some]
        rw [if_neg c1, if_neg c2, if_pos c3]
        unfold emp
        generalize (x.f3.length : Int) = n3
        generalize (x.f4.length : Int) = n4
        cases (n3 == 0 && n4 == 0) <;> by_cases d : x.f1.toList = [] <;> cases inB x.f2 0 1 <;> simp [d]
      · by_cases c4 : x.f0 = 4
        · refine ev_if_neg c1 (ev_if_neg c2 (ev_if_neg c3 (ev_if_pos c4 (ev_now ?_))))
          rw [if_neg c1, if_neg c2, if_neg c3, if_pos c4]
          unfold emp
          generalize (x.f3.length : Int) = n3
          generalize (x.f4.length : Int) = n4
          by_cases d : x.f1.toList = [] <;> by_cases d2 : n3 = 0 <;> by_cases d3 : x.f2 = 0 <;> simp [d, d2, d3]
        · by_cases c5 : x.f0 = 5
          · refine ev_if_neg c1 (ev_if_neg c2 (ev_if_neg c3 (ev_if_neg c4 (ev_if_pos c5 (Ev.bind (l4Keys_ev x h3) (ev_now ?_))))))
            rw [if_neg c1, if_neg c2, if_neg c3, if_neg c4, if_pos c5]
            unfold emp
            generalize (x.f3.length : Int) = n3
            generalize (x.f4.length : Int) = n4
            cases (namsB x.f3 && (n3 == n4)) <;> by_cases d : x.f1.toList = [] <;> by_cases d3 : x.f2 = 0 <;> simp [d, d3]
          · refine ev_if_neg c1 (ev_if_neg c2 (ev_if_neg c3 (ev_if_neg c4 (ev_if_neg c5 (ev_some ?_)))))
            rw [if_neg c1, if_neg c2, if_neg c3, if_neg c4, if_neg c5]; simp
theorem smI_parts {n : Nat} {x : IVal} (h : SmI n x) : ∃ m, n = m + 1 ∧ x.f1.size ≤ 1048576 ∧ wfStrs x.f3 ∧ x.f4.length ≤ 1048576 ∧ ∀ y ∈ x.f4, SmI m y := by
  cases n with
  | zero => rw [SmI] at h; exact h.elim
  | succ m => rw [SmI] at h; exact ⟨m, rfl, h.2.1, wfStrs_of h.2.2.1, h.2.2.2.1, h.2.2.2.2⟩
theorem l4Look_ev : ∀ (r : Nat) (n : Nat) (x : IVal), r ≤ 1000 → SmI n x → Ev (fun k => spec_l4Look.f k x.f0 x.f1 x.f2 x.f3 x.f4 r) ((lookN r x : Nat) : Int)
  | 0, n, x, _, h => Ev.step (fun k => by rw [spec_l4Look.f]) (ev_if_pos (by omega) (ev_some (by simp [lookN])))
  | r + 1, n, x, hr, h => by
    obtain ⟨m, rfl, h1, h3, hl, hk⟩ := smI_parts h
    have hx := h
    have loop : ∀ (d i a : Nat), i + d = x.f4.length → 1 ≤ a → a ≤ 300 → Ev (fun k => spec_l4Look.l0 k ((r + 1 : Nat) : Int) a i x.f0 x.f1 x.f2 x.f3 x.f4) (if shB x = true then ((sumL (lookN r) a (x.f4.drop i) : Nat) : Int) else 0) := by
      intro d
      induction d with
      | zero =>
        intro i a hi ha ha2
        rw [List.drop_of_length_le (by omega), sumL]
        refine Ev.step (fun k => by rw [spec_l4Look.l0]) (ev_if_neg (by omega) ?_)
        exact ev_if (fun c => l4Look_j1 x a (by omega) h3 _ (by rw [beq_iff_eq.2 c, Bool.true_and])) (fun c => l4Look_j1 x a (by omega) h3 _ (by rw [beq_eq_false_iff_ne.2 c, Bool.false_and]))
      | succ d ih =>
        intro i a hid ha ha2
        have hi : i < x.f4.length := by omega
        have hle := lookN_le r x.f4[i]
        refine Ev.step (fun k => by rw [spec_l4Look.l0]) (ev_if_pos (by omega) (ev_if_pos (by omega) ?_))
        have hw : wrap64 (((r + 1 : Nat) : Int) - 1) = (r : Int) := by rw [w64 (by omega) (by omega)]; omega
        simp only [rdIV hi, hw, wsucc hi (by omega : x.f4.length ≤ 9223372036854775807)]
        refine Ev.bind (l4Look_ev r m x.f4[i] (by omega) (hk _ (List.getElem_mem hi))) ?_
        have hw2 : wrap64 ((a : Int) + (lookN r x.f4[i] : Nat)) = ((a + lookN r x.f4[i] : Nat) : Int) := by rw [w64 (by omega) (by omega)]; omega
        rw [hw2, List.drop_eq_getElem_cons hi]
        by_cases c : lookN r x.f4[i] = 0
        · rw [sumL_bad (.inl c)]
          exact ev_if_pos (by omega) (ev_some (by simp))
        · refine ev_if_neg (by omega) ?_
          by_cases c2 : a + lookN r x.f4[i] > 300
          · rw [sumL_bad (.inr c2)]
            exact ev_if_pos (by omega) (ev_some (by simp))
          · rw [sumL_good (by omega)]
            exact ev_if_neg (by omega) (ih (i + 1) (a + lookN r x.f4[i]) (by omega) (by omega) (by omega))
    refine Ev.step (fun k => by rw [spec_l4Look.f]) (ev_if_neg (by omega) ?_)
    refine ev_rw (loop x.f4.length 0 1 (by omega) (by omega) (by omega)) ?_
    rw [List.drop_zero, lookN]
    by_cases c : shB x = true <;> simp [c]
def bigN (n : Nat) : Int := if n = 0 then 301 else n
theorem measured_ev : ∀ (r : Nat) (n : Nat) (x : IVal), r ≤ 1000 → SmI n x → Ev (fun k => impl_measured.f k x.f0 x.f1 x.f2 x.f3 x.f4 r) (bigN (lookN r x))
  | 0, n, x, _, h => Ev.step (fun k => by rw [impl_measured.f]) (ev_if_pos (by omega) (Ev.step (fun k => by rw [impl_measured.j0]) (ev_if_pos rfl (ev_some (by simp [lookN, bigN])))))
  | r + 1, n, x, hr, h => by
    obtain ⟨m, rfl, h1, h3, hl, hk⟩ := smI_parts h
    have loop : ∀ (d i a : Nat), i + d = x.f4.length → 1 ≤ a → a ≤ 300 → Ev (fun k => impl_measured.l0 k ((r + 1 : Nat) : Int) a x.f4 x.f4.length i) (bigN (sumL (lookN r) a (x.f4.drop i))) := by
      intro d
      induction d with
      | zero =>
        intro i a hi ha ha2
        rw [List.drop_of_length_le (by omega), sumL]
        exact Ev.step (fun k => by rw [impl_measured.l0]) (ev_if_neg (by omega) (ev_some (by unfold bigN; rw [if_neg (by omega)])))
      | succ d ih =>
        intro i a hid ha ha2
        have hi : i < x.f4.length := by omega
        have hle := lookN_le r x.f4[i]
        refine Ev.step (fun k => by rw [impl_measured.l0]) (ev_if_pos (by omega) (ev_if_pos (by omega) (ev_if_pos (by omega) ?_)))
        have hw : wrap64 (((r + 1 : Nat) : Int) - 1) = (r : Int) := by rw [w64 (by omega) (by omega)]; omega
        simp only [rdIV hi, hw, wsucc hi (by omega : x.f4.length ≤ 9223372036854775807)]
        refine Ev.bind (measured_ev r m x.f4[i] (by omega) (hk _ (List.getElem_mem hi))) ?_
        rw [List.drop_eq_getElem_cons hi]
        by_cases c : lookN r x.f4[i] = 0
        · rw [sumL_bad (.inl c), show bigN (lookN r x.f4[i]) = 301 from if_pos c, w64 (by omega) (by omega)]
          exact ev_if_pos (by omega) (Ev.now _)
        · have hw2 : wrap64 ((a : Int) + bigN (lookN r x.f4[i])) = ((a + lookN r x.f4[i] : Nat) : Int) := by unfold bigN; rw [if_neg c, w64 (by omega) (by omega)]; omega
          rw [hw2]
          by_cases c2 : a + lookN r x.f4[i] > 300
          · rw [sumL_bad (.inr c2)]
            exact ev_if_pos (by omega) (Ev.now _)
          · rw [sumL_good (by omega)]
            exact ev_if_neg (by omega) (ih (i + 1) (a + lookN r x.f4[i]) (by omega) (by omega) (by omega))
    refine Ev.step (fun k => by rw [impl_measured.f]) (ev_if_neg (by omega) (Ev.bind (implShapeOk_ev x (by omega) h3) ?_))
    refine Ev.step (fun k => by rw [impl_measured.j0]) ?_
    rw [lookN]
    by_cases c : shB x = true
    · rw [if_pos c, c, Bool.true_and]
      by_cases c2 : x.f0 ≠ 5 ∨ (x.f3.length : Int) ≤ 300
      · rw [decide_eq_true c2]
        refine ev_if_neg (by simp) (ev_rw (loop x.f4.length 0 1 (by omega) (by omega) (by omega)) ?_)
        rw [List.drop_zero]
      · rw [decide_eq_false c2]
        refine ev_if_pos rfl (ev_some ?_)
        have e5 : x.f0 = 5 := by omega
        have hlen : x.f3.length = x.f4.length := by
          unfold shB at c
          rw [if_neg (by omega), if_neg (by omega), if_neg (by omega), if_neg (by omega), if_pos e5] at c
          simp only [Bool.and_eq_true, beq_iff_eq] at c
          omega
        rcases sumL_bounds (lookN r) x.f4 1 (by omega) with h0 | h0
        · rw [h0]; rfl
        · omega
    · rw [if_neg c, Bool.eq_false_iff.2 c, Bool.false_and]
      exact ev_if_pos rfl (Ev.now _)
end Go.Proofs.Ytmoiacijklkfaaa.G

/- G95 -/
-- Laid by wip/g/gprint.py out of the translation, by the kit's print program. Lean checks it.
namespace Go.Proofs.Ytmoiacijklkfaaa.G
open Go.RowKit Go.Proofs.YtmoiacijklkfaaaW.PrintWords Go.Proofs.YtmoiacijklkfaaaW.PrintLast Go.Proofs.YtmoiacijklkfaaaW.PrintMore
attribute [local go_sem] max2_int min2_int max_two min_two max_three min_three max_four min_four   -- for this text's walks alone
set_option linter.unusedVariables false
set_option linter.unusedSimpArgs false

/-! ### impl_ValueOk: function 95 -/
def impl_ValueOk.f (k : Nat) (a0_0 : Int) (a0_1 : ByteArray) (a0_2 : Int) (l0_3 : List ByteArray) (l0_4 : List (S44)) : Option (Bool) := (impl_measured.f k a0_0 a0_1 a0_2 l0_3 l0_4 6).bind fun t871 => (some (decide (t871 ≤ 300)))
set_option maxHeartbeats 8000000 in
set_option maxRecDepth 100000 in
theorem impl_ValueOk.calls (k : Nat) (a0_0 : Int) (a0_1 : ByteArray) (a0_2 : Int) (A0_3 : Option Addr) (c0_3 : Nat) (l0_3 : List ByteArray) (A0_4 : Option Addr) (c0_4 : Nat) (l0_4 : List (S44)) (r : Bool) (w : World) (hr0_3 : Kd.C Kd.string w A0_3 l0_3.length l0_3) (hc0_3 : l0_3.length ≤ c0_3) (hr0_4 : Kd.C k44 w A0_4 l0_4.length l0_4) (hc0_4 : l0_4.length ≤ c0_4) (h : impl_ValueOk.f k a0_0 a0_1 a0_2 l0_3 l0_4 = some r) :
    Calls Try.prog 95 #[.agg #[.int .i64 a0_0, .string a0_1, .int .i64 a0_2, .slice A0_3 l0_3.length c0_3, .slice A0_4 l0_4.length c0_4]] w fun e w' => e = .returned (.bool r) ∧ Below w.heap.size w w' := by
  have hu44 := Try.underlying44
  have HR0_3 := Aside0.mk hr0_3
  have HC0_3 := Aside0.mk hc0_3
  clear hr0_3 hc0_3
  have HR0_4 := Aside0.mk hr0_4
  have HC0_4 := Aside0.mk hc0_4
  clear hr0_4 hc0_4
  have HB := Aside0.mk (Below.refl w.heap.size w)
  have H : ((impl_measured.f k a0_0 a0_1 a0_2 l0_3 l0_4 6).bind fun t871 => (some (decide (t871 ≤ 300)))) = some r := h
  clear h
  replace H := Option.bind_eq_some_iff.mp H
  obtain ⟨t871, A20, H⟩ := H
  replace H : (some (decide (t871 ≤ 300))) = some r := H
  have A2 := Aside0.mk A20
  clear A20
  obtain rfl := Option.some.inj H
  go_enter Try.func95, Try.ntmps95
  go_wp2_with (first | ((with_reducible refine gate_dst (N := 1) rfl ?_); refine box_event ?hg (N := 1) ?hd (cs := #[.int .i64 a0_0, .string a0_1, .int .i64 a0_2, .slice A0_3 l0_3.length c0_3, .slice A0_4 l0_4.length c0_4]) (t := 44) ?hr ?_; (case hd => rfl); (case hg => rfl); (case hr => first | (go_simp; done) | (go_simp; rfl)); intro gb870 hg w3 hbox hb; have n0_ := Aside0.mk (below_step (by repeat (first | (with_reducible first | exact HB.out | apply below_alloc | apply pw_below_drewN | apply below_drew1) | exact HB.out)) hb); have n1_ := Aside0.mk (hbox); have n2_ := Aside0.mk ((by rw [hg]; exact (below_size (by repeat (first | (with_reducible first | exact HB.out | apply below_alloc | apply pw_below_drewN | apply below_drew1) | exact HB.out))) : w.heap.size ≤ gb870)); have n3_ := Aside0.mk ((by rw [hg]; exact (below_size (by repeat (first | (with_reducible first | exact HB.out | apply below_alloc | apply pw_below_drewN | apply below_drew1) | exact HB.out))) : w.heap.size ≤ gb870)); clear HB; have HB := n0_; have BK870 := n1_; have GW870 := n2_; have GE870 := n3_; clear n0_ n1_ n2_ n3_; clear hb hbox hg; have hcz4_0 : w3.cell? ⟨gb870, 0, none⟩ = some (.int .i64 a0_0) := (blk_cell BK870.out 0).trans rfl; have hcz4_1 : w3.cell? ⟨gb870, 1, none⟩ = some (.string a0_1) := (blk_cell BK870.out 1).trans rfl; have hcz4_2 : w3.cell? ⟨gb870, 2, none⟩ = some (.int .i64 a0_2) := (blk_cell BK870.out 2).trans rfl; have hcz4_3 : w3.cell? ⟨gb870, 3, none⟩ = some (.slice A0_3 l0_3.length c0_3) := (blk_cell BK870.out 3).trans rfl; have hcz4_4 : w3.cell? ⟨gb870, 4, none⟩ = some (.slice A0_4 l0_4.length c0_4) := (blk_cell BK870.out 4).trans rfl; have hfz4_0 := blk_frozen BK870.out 0; have hfz4_1 := blk_frozen BK870.out 1; have hfz4_2 := blk_frozen BK870.out 2; have hfz4_3 := blk_frozen BK870.out 3; have hfz4_4 := blk_frozen BK870.out 4) | ((with_reducible refine gate_callee (f := 137) rfl ?_); refine goesL_ (some 4) rfl rfl Try.func137 (by kernel_rfl) rfl #[.agg #[.int .i64 a0_0, .string a0_1, .int .i64 a0_2, .slice A0_3 l0_3.length c0_3, .slice A0_4 l0_4.length c0_4], .int .i64 6] rfl (by (try simp only [List.map_toArray, List.map_cons, List.map_nil]); first | done | rfl | (simp only [List.length_drop, List.length_take]; rfl)) ?_; (with_reducible refine (impl_measured.calls k a0_0 a0_1 a0_2 _ _ l0_3 _ _ l0_4 6 t871 _ ?side1 ?side2 ?side3 ?side4 A2.out).mono ?_); (case side1 => repeat (first | exact (Kd.C_below HR0_3.out HB.out) | (with_reducible refine Kd.C_alloc ?_ _) | (with_reducible refine Kd.C_drewN ?_ _) | (with_reducible refine Kd.C_drew ?_))); (case side2 => exact HC0_3.out); (case side3 => repeat (first | exact (Kd.C_below HR0_4.out HB.out) | (with_reducible refine Kd.C_alloc ?_ _) | (with_reducible refine Kd.C_drewN ?_ _) | (with_reducible refine Kd.C_drew ?_))); (case side4 => exact HC0_4.out); rintro e w5 ⟨rfl, hb⟩; refine ⟨_, rfl, ?_⟩; have n0_ := Aside0.mk (blk_below (g := gb870) (o := .cells #[.int .i64 a0_0, .string a0_1, .int .i64 a0_2, .slice A0_3 l0_3.length c0_3, .slice A0_4 l0_4.length c0_4] 44 (0, 0)) (by (with_reducible repeat (first | refine blk_drewN ?_ _ | refine blk_drew ?_ | refine blk_alloc ?_ _)); exact BK870.out) hb); have n1_ := Aside0.mk (below_step (by repeat (first | (with_reducible first | exact HB.out | apply below_alloc | apply pw_below_drewN | apply below_drew1 | refine below_set ?_ GE870.out) | exact HB.out)) hb); clear BK870; clear HB; have BK870 := n0_; have HB := n1_; clear n0_ n1_; (try clear hb); (try clear hb2); (try clear hk); (try clear hi)))
  go_ret
  exact ⟨by first | rfl | (simp [errW_none, errW_some] <;> rfl) | (simp [*, errW_none, errW_some] <;> rfl), by repeat (first | (with_reducible first | exact HB.out | apply below_alloc | apply pw_below_drewN | apply below_drew1 | refine below_set ?_ GE870.out) | exact HB.out)⟩

end Go.Proofs.Ytmoiacijklkfaaa.G

/- G97 -/
-- Laid by wip/g/gprint.py out of the translation, by the kit's print program. Lean checks it.
namespace Go.Proofs.Ytmoiacijklkfaaa.G
open Go.RowKit Go.Proofs.YtmoiacijklkfaaaW.PrintWords Go.Proofs.YtmoiacijklkfaaaW.PrintLast Go.Proofs.YtmoiacijklkfaaaW.PrintMore
attribute [local go_sem] max2_int min2_int max_two min_two max_three min_three max_four min_four   -- for this text's walks alone
set_option linter.unusedVariables false
set_option linter.unusedSimpArgs false

/-! ### spec_ValueOk: function 97 -/
def spec_ValueOk.f (k : Nat) (a0_0 : Int) (a0_1 : ByteArray) (a0_2 : Int) (l0_3 : List ByteArray) (l0_4 : List (S44)) : Option (Bool) := (spec_l4Look.f k a0_0 a0_1 a0_2 l0_3 l0_4 6).bind fun t136 => (some (decide (t136 > 0)))
set_option maxHeartbeats 8000000 in
set_option maxRecDepth 100000 in
theorem spec_ValueOk.calls (k : Nat) (a0_0 : Int) (a0_1 : ByteArray) (a0_2 : Int) (A0_3 : Option Addr) (c0_3 : Nat) (l0_3 : List ByteArray) (A0_4 : Option Addr) (c0_4 : Nat) (l0_4 : List (S44)) (r : Bool) (w : World) (hr0_3 : Kd.C Kd.string w A0_3 l0_3.length l0_3) (hc0_3 : l0_3.length ≤ c0_3) (hr0_4 : Kd.C k44 w A0_4 l0_4.length l0_4) (hc0_4 : l0_4.length ≤ c0_4) (h : spec_ValueOk.f k a0_0 a0_1 a0_2 l0_3 l0_4 = some r) :
    Calls Try.prog 97 #[.agg #[.int .i64 a0_0, .string a0_1, .int .i64 a0_2, .slice A0_3 l0_3.length c0_3, .slice A0_4 l0_4.length c0_4]] w fun e w' => e = .returned (.bool r) ∧ Below w.heap.size w w' := by
  have hu44 := Try.underlying44
  have HR0_3 := Aside0.mk hr0_3
  have HC0_3 := Aside0.mk hc0_3
  clear hr0_3 hc0_3
  have HR0_4 := Aside0.mk hr0_4
  have HC0_4 := Aside0.mk hc0_4
  clear hr0_4 hc0_4
  have HB := Aside0.mk (Below.refl w.heap.size w)
  have H : ((spec_l4Look.f k a0_0 a0_1 a0_2 l0_3 l0_4 6).bind fun t136 => (some (decide (t136 > 0)))) = some r := h
  clear h
  replace H := Option.bind_eq_some_iff.mp H
  obtain ⟨t136, A20, H⟩ := H
  replace H : (some (decide (t136 > 0))) = some r := H
  have A2 := Aside0.mk A20
  clear A20
  obtain rfl := Option.some.inj H
  go_enter Try.func97, Try.ntmps97
  go_wp2_with (first | ((with_reducible refine gate_dst (N := 1) rfl ?_); refine box_event ?hg (N := 1) ?hd (cs := #[.int .i64 a0_0, .string a0_1, .int .i64 a0_2, .slice A0_3 l0_3.length c0_3, .slice A0_4 l0_4.length c0_4]) (t := 44) ?hr ?_; (case hd => rfl); (case hg => rfl); (case hr => first | (go_simp; done) | (go_simp; rfl)); intro gb135 hg w3 hbox hb; have n0_ := Aside0.mk (below_step (by repeat (first | (with_reducible first | exact HB.out | apply below_alloc | apply pw_below_drewN | apply below_drew1) | exact HB.out)) hb); have n1_ := Aside0.mk (hbox); have n2_ := Aside0.mk ((by rw [hg]; exact (below_size (by repeat (first | (with_reducible first | exact HB.out | apply below_alloc | apply pw_below_drewN | apply below_drew1) | exact HB.out))) : w.heap.size ≤ gb135)); have n3_ := Aside0.mk ((by rw [hg]; exact (below_size (by repeat (first | (with_reducible first | exact HB.out | apply below_alloc | apply pw_below_drewN | apply below_drew1) | exact HB.out))) : w.heap.size ≤ gb135)); clear HB; have HB := n0_; have BK135 := n1_; have GW135 := n2_; have GE135 := n3_; clear n0_ n1_ n2_ n3_; clear hb hbox hg; have hcz4_0 : w3.cell? ⟨gb135, 0, none⟩ = some (.int .i64 a0_0) := (blk_cell BK135.out 0).trans rfl; have hcz4_1 : w3.cell? ⟨gb135, 1, none⟩ = some (.string a0_1) := (blk_cell BK135.out 1).trans rfl; have hcz4_2 : w3.cell? ⟨gb135, 2, none⟩ = some (.int .i64 a0_2) := (blk_cell BK135.out 2).trans rfl; have hcz4_3 : w3.cell? ⟨gb135, 3, none⟩ = some (.slice A0_3 l0_3.length c0_3) := (blk_cell BK135.out 3).trans rfl; have hcz4_4 : w3.cell? ⟨gb135, 4, none⟩ = some (.slice A0_4 l0_4.length c0_4) := (blk_cell BK135.out 4).trans rfl; have hfz4_0 := blk_frozen BK135.out 0; have hfz4_1 := blk_frozen BK135.out 1; have hfz4_2 := blk_frozen BK135.out 2; have hfz4_3 := blk_frozen BK135.out 3; have hfz4_4 := blk_frozen BK135.out 4) | ((with_reducible refine gate_callee (f := 140) rfl ?_); refine goesL_ (some 4) rfl rfl Try.func140 (by kernel_rfl) rfl #[.agg #[.int .i64 a0_0, .string a0_1, .int .i64 a0_2, .slice A0_3 l0_3.length c0_3, .slice A0_4 l0_4.length c0_4], .int .i64 6] rfl (by (try simp only [List.map_toArray, List.map_cons, List.map_nil]); first | done | rfl | (simp only [List.length_drop, List.length_take]; rfl)) ?_; (with_reducible refine (spec_l4Look.calls k a0_0 a0_1 a0_2 _ _ l0_3 _ _ l0_4 6 t136 _ ?side1 ?side2 ?side3 ?side4 A2.out).mono ?_); (case side1 => repeat (first | exact (Kd.C_below HR0_3.out HB.out) | (with_reducible refine Kd.C_alloc ?_ _) | (with_reducible refine Kd.C_drewN ?_ _) | (with_reducible refine Kd.C_drew ?_))); (case side2 => exact HC0_3.out); (case side3 => repeat (first | exact (Kd.C_below HR0_4.out HB.out) | (with_reducible refine Kd.C_alloc ?_ _) | (with_reducible refine Kd.C_drewN ?_ _) | (with_reducible refine Kd.C_drew ?_))); (case side4 => exact HC0_4.out); rintro e w5 ⟨rfl, hb⟩; refine ⟨_, rfl, ?_⟩; have n0_ := Aside0.mk (blk_below (g := gb135) (o := .cells #[.int .i64 a0_0, .string a0_1, .int .i64 a0_2, .slice A0_3 l0_3.length c0_3, .slice A0_4 l0_4.length c0_4] 44 (0, 0)) (by (with_reducible repeat (first | refine blk_drewN ?_ _ | refine blk_drew ?_ | refine blk_alloc ?_ _)); exact BK135.out) hb); have n1_ := Aside0.mk (below_step (by repeat (first | (with_reducible first | exact HB.out | apply below_alloc | apply pw_below_drewN | apply below_drew1 | refine below_set ?_ GE135.out) | exact HB.out)) hb); clear BK135; clear HB; have BK135 := n0_; have HB := n1_; clear n0_ n1_; (try clear hb); (try clear hb2); (try clear hk); (try clear hi)))
  go_ret
  exact ⟨by first | rfl | (simp [errW_none, errW_some] <;> rfl) | (simp [*, errW_none, errW_some] <;> rfl), by repeat (first | (with_reducible first | exact HB.out | apply below_alloc | apply pw_below_drewN | apply below_drew1 | refine below_set ?_ GE135.out) | exact HB.out)⟩

end Go.Proofs.Ytmoiacijklkfaaa.G

/- PValB -/
/-
  ValueOk, both.
-/
namespace Go.Proofs.Ytmoiacijklkfaaa.G
open Go.RowKit Go.Proofs.YtmoiacijklkfaaaW.PrintWords Go.Proofs.YtmoiacijklkfaaaW.PrintLast Go.Proofs.YtmoiacijklkfaaaW.PrintMore
set_option linter.unusedVariables false
set_option linter.unusedSimpArgs false
def valB (x : IVal) : Bool := decide (0 < lookN 6 x)
theorem specValueOk_ev {n : Nat} (x : IVal) (h : SmI n x) : Ev (fun k => spec_ValueOk.f k x.f0 x.f1 x.f2 x.f3 x.f4) (valB x) := by
  unfold spec_ValueOk.f valB
  exact Ev.bind (l4Look_ev 6 n x (by omega) h) (ev_some (by rw [decide_eq_decide]; omega))
theorem implValueOk_ev {n : Nat} (x : IVal) (h : SmI n x) : Ev (fun k => impl_ValueOk.f k x.f0 x.f1 x.f2 x.f3 x.f4) (valB x) := by
  unfold impl_ValueOk.f valB
  refine Ev.bind (measured_ev 6 n x (by omega) h) (ev_some ?_)
  have := lookN_le 6 x
  unfold bigN
  rw [decide_eq_decide]
  split <;> omega
end Go.Proofs.Ytmoiacijklkfaaa.G

/- G104 -/
-- Laid by wip/g/gprint.py out of the translation, by the kit's print program. Lean checks it.
namespace Go.Proofs.Ytmoiacijklkfaaa.G
open Go.RowKit Go.Proofs.YtmoiacijklkfaaaW.PrintWords Go.Proofs.YtmoiacijklkfaaaW.PrintLast Go.Proofs.YtmoiacijklkfaaaW.PrintMore
attribute [local go_sem] max2_int min2_int max_two min_two max_three min_three max_four min_four   -- for this text's walks alone
set_option linter.unusedVariables false
set_option linter.unusedSimpArgs false

/-! ### spec_l7Waits: function 104 -/
def spec_l7Waits.l0 : Nat → List ByteArray → Int → Option (Bool)
  | 0, _, _ => none
  | k + 1, x0, x3 => if x3 < (x0.length : Int) then (if 0 ≤ x3 then ((spec_NameOk.f k (rdOf ByteArray.empty x0 x3)).bind fun t138 => (if t138 = true then (if x3 > 0 then (if 0 ≤ (wrap64 (x3 - 1)) then (if (wrap64 (x3 - 1)) < (x0.length : Int) then (if ((Op.bytesLess ((rdOf ByteArray.empty x0 (wrap64 (x3 - 1))).toList) ((rdOf ByteArray.empty x0 x3).toList)) = true) then (spec_l7Waits.l0 k x0 (wrap64 (x3 + 1))) else (some false)) else (none)) else (none)) else (spec_l7Waits.l0 k x0 (wrap64 (x3 + 1)))) else (some false))) else (none)) else (some (decide ((x0.length : Int) ≤ 4)))
def spec_l7Waits.f (k : Nat) (l0 : List ByteArray) : Option (Bool) := spec_l7Waits.l0 k l0 0
set_option maxHeartbeats 8000000 in
set_option maxRecDepth 100000 in
theorem spec_l7Waits.calls (k : Nat) (A0 : Option Addr) (c0 : Nat) (l0 : List ByteArray) (r : Bool) (w : World) (hr0 : Kd.C Kd.string w A0 l0.length l0) (hc0 : l0.length ≤ c0) (h : spec_l7Waits.f k l0 = some r) :
    Calls Try.prog 104 #[.slice A0 l0.length c0] w fun e w' => e = .returned (.bool r) ∧ Drawn0 w w' := by
  have HR0 := Aside0.mk hr0
  have HC0 := Aside0.mk hc0
  clear hr0 hc0
  have H : (spec_l7Waits.l0 k l0 0) = some r := h
  clear h
  have H' := Aside0.mk H
  clear H
  go_enter Try.func104, Try.ntmps104
  go_wp2
  repeat (go_quiet (fail); try go_wp2)
  go_loopg [3] k (fun kq v3 w' => ∃ (x3_1 : Int), v3 = .int .i64 x3_1 ∧ Aside0 (spec_l7Waits.l0 kq l0 x3_1 = some r) ∧ Aside0 (kq ≤ k) ∧ Drawn0 w w')
  case atStart => exact ⟨(0), (by first | rfl | (simp; done) | (simp [*]; done)), H', ⟨Nat.le_refl _⟩, by repeat (first | exact Drawn0.refl _ | apply Drawn0.step)⟩
  case round =>
    clear H'
    try clear c1
    obtain ⟨x3_1, rfl, HA, HK1, ⟨m1, rfl⟩⟩ := hrel
    cases gk with
    | zero => exact absurd HA.out (by simp [spec_l7Waits.l0])
    | succ k1 =>
      have H := HA.out
      clear HA
      simp only [spec_l7Waits.l0] at H
      by_cases c2 : x3_1 < (l0.length : Int)
      · rw [if_pos c2] at H
        have c2b0 : decide (x3_1 < (l0.length : Int)) = true := decide_eq_true c2
        clear c2
        by_cases c3 : 0 ≤ x3_1
        · rw [if_pos c3] at H
          have c3b0 : decide (0 ≤ x3_1) = true := decide_eq_true c3
          clear c3
          replace H := Option.bind_eq_some_iff.mp H
          obtain ⟨t138, A40, H⟩ := H
          replace H : (if t138 = true then (if x3_1 > 0 then (if 0 ≤ (wrap64 (x3_1 - 1)) then (if (wrap64 (x3_1 - 1)) < (l0.length : Int) then (if ((Op.bytesLess ((rdOf ByteArray.empty l0 (wrap64 (x3_1 - 1))).toList) ((rdOf ByteArray.empty l0 x3_1).toList)) = true) then (spec_l7Waits.l0 k1 l0 (wrap64 (x3_1 + 1))) else (some false)) else (none)) else (none)) else (spec_l7Waits.l0 k1 l0 (wrap64 (x3_1 + 1)))) else (some false)) = some r := H
          have A4 := Aside0.mk A40
          clear A40
          by_cases c5 : t138 = true
          · subst c5
            have H1 : (if x3_1 > 0 then (if 0 ≤ (wrap64 (x3_1 - 1)) then (if (wrap64 (x3_1 - 1)) < (l0.length : Int) then (if ((Op.bytesLess ((rdOf ByteArray.empty l0 (wrap64 (x3_1 - 1))).toList) ((rdOf ByteArray.empty l0 x3_1).toList)) = true) then (spec_l7Waits.l0 k1 l0 (wrap64 (x3_1 + 1))) else (some false)) else (none)) else (none)) else (spec_l7Waits.l0 k1 l0 (wrap64 (x3_1 + 1)))) = some r := by rw [if_pos rfl] at H; exact H
            clear H
            have H := H1
            clear H1
            by_cases c6 : x3_1 > 0
            · rw [if_pos c6] at H
              have c6b0 : decide (0 < x3_1) = true := decide_eq_true c6
              clear c6
              obtain ⟨ji7, hji7⟩ : ∃ j_ : Int, (wrap64 (x3_1 - 1)) = j_ := ⟨_, rfl⟩
              replace H : (if 0 ≤ (ji7) then (if (ji7) < (l0.length : Int) then (if ((Op.bytesLess ((rdOf ByteArray.empty l0 (ji7)).toList) ((rdOf ByteArray.empty l0 x3_1).toList)) = true) then (spec_l7Waits.l0 k1 l0 (wrap64 (x3_1 + 1))) else (some false)) else (none)) else (none)) = some r := by first | (rw [hji7] at H; exact H) | (simp only [hji7] at H ⊢; exact H)
              (try rw [hji7] at A4)
              have hji7w : (IntKind.i64.wrap (x3_1 - 1)) = ji7 := (i64_w _).trans hji7
              by_cases c8 : 0 ≤ (ji7)
              · rw [if_pos c8] at H
                have c8b0 : decide (0 ≤ (ji7)) = true := decide_eq_true c8
                clear c8
                by_cases c9 : (ji7) < (l0.length : Int)
                · rw [if_pos c9] at H
                  have c9b0 : decide ((ji7) < (l0.length : Int)) = true := decide_eq_true c9
                  clear c9
                  by_cases c10 : ((Op.bytesLess ((rdOf ByteArray.empty l0 (ji7)).toList) ((rdOf ByteArray.empty l0 x3_1).toList)) = true)
                  · rw [if_pos c10] at H
                    have c10b0 : (Op.bytesLess ((rdOf ByteArray.empty l0 (ji7)).toList) ((rdOf ByteArray.empty l0 x3_1).toList)) = true := c10
                    clear c10
                    have H' := Aside0.mk H
                    clear H
                    have p137 : 0 ≤ (x3_1 : Int) := of_decide_eq_true (by first | (with_reducible assumption) | assumption)
                    have q137 : x3_1 < (l0.length : Int) := of_decide_eq_true (by first | (with_reducible assumption) | assumption)
                    obtain ⟨ad137, e137, hx137_0⟩ := Kd.at_string HR0.out x3_1 p137 q137
                    cases e137
                    replace p137 := eq_true p137
                    replace q137 := eq_true q137
                    go_wp2_with (first | (go_at_call 111; (with_reducible refine (spec_NameOk.calls k1 (rdOf ByteArray.empty l0 x3_1) true _ A4.out).mono ?_); rintro e w' ⟨rfl, ⟨nd, rfl⟩⟩; (try first | exact ⟨rfl, _, World.drewN_drewN _ _ _⟩ | exact ⟨rfl, _, Eq.trans (World.drewN_drewN _ _ _) (congrArg (World.drewN _) (Nat.add_assoc _ _ _))⟩); have p139 : 0 ≤ ((ji7) : Int) := of_decide_eq_true (by first | (with_reducible assumption) | assumption); have q139 : (ji7) < (l0.length : Int) := of_decide_eq_true (by first | (with_reducible assumption) | assumption); obtain ⟨ad139, e139, hx139_0⟩ := Kd.at_string HR0.out (ji7) p139 q139; obtain rfl : ad137 = ad139 := (by injection e139); replace p139 := eq_true p139; replace q139 := eq_true q139; have p140 : 0 ≤ (x3_1 : Int) := of_decide_eq_true (by first | (with_reducible assumption) | assumption); have q140 : x3_1 < (l0.length : Int) := of_decide_eq_true (by first | (with_reducible assumption) | assumption); obtain ⟨ad140, e140, hx140_0⟩ := Kd.at_string HR0.out x3_1 p140 q140; obtain rfl : ad137 = ad140 := (by injection e140); replace p140 := eq_true p140; replace q140 := eq_true q140))
                    repeat (go_quiet (first | (go_at_call 111; (with_reducible refine (spec_NameOk.calls k1 (rdOf ByteArray.empty l0 x3_1) true _ A4.out).mono ?_); rintro e w' ⟨rfl, ⟨nd, rfl⟩⟩; (try first | exact ⟨rfl, _, World.drewN_drewN _ _ _⟩ | exact ⟨rfl, _, Eq.trans (World.drewN_drewN _ _ _) (congrArg (World.drewN _) (Nat.add_assoc _ _ _))⟩); have p139 : 0 ≤ ((ji7) : Int) := of_decide_eq_true (by first | (with_reducible assumption) | assumption); have q139 : (ji7) < (l0.length : Int) := of_decide_eq_true (by first | (with_reducible assumption) | assumption); obtain ⟨ad139, e139, hx139_0⟩ := Kd.at_string HR0.out (ji7) p139 q139; obtain rfl : ad137 = ad139 := (by injection e139); replace p139 := eq_true p139; replace q139 := eq_true q139; have p140 : 0 ≤ (x3_1 : Int) := of_decide_eq_true (by first | (with_reducible assumption) | assumption); have q140 : x3_1 < (l0.length : Int) := of_decide_eq_true (by first | (with_reducible assumption) | assumption); obtain ⟨ad140, e140, hx140_0⟩ := Kd.at_string HR0.out x3_1 p140 q140; obtain rfl : ad137 = ad140 := (by injection e140); replace p140 := eq_true p140; replace q140 := eq_true q140)); try go_wp2_with (first | (go_at_call 111; (with_reducible refine (spec_NameOk.calls k1 (rdOf ByteArray.empty l0 x3_1) true _ A4.out).mono ?_); rintro e w' ⟨rfl, ⟨nd, rfl⟩⟩; (try first | exact ⟨rfl, _, World.drewN_drewN _ _ _⟩ | exact ⟨rfl, _, Eq.trans (World.drewN_drewN _ _ _) (congrArg (World.drewN _) (Nat.add_assoc _ _ _))⟩); have p139 : 0 ≤ ((ji7) : Int) := of_decide_eq_true (by first | (with_reducible assumption) | assumption); have q139 : (ji7) < (l0.length : Int) := of_decide_eq_true (by first | (with_reducible assumption) | assumption); obtain ⟨ad139, e139, hx139_0⟩ := Kd.at_string HR0.out (ji7) p139 q139; obtain rfl : ad137 = ad139 := (by injection e139); replace p139 := eq_true p139; replace q139 := eq_true q139; have p140 : 0 ≤ (x3_1 : Int) := of_decide_eq_true (by first | (with_reducible assumption) | assumption); have q140 : x3_1 < (l0.length : Int) := of_decide_eq_true (by first | (with_reducible assumption) | assumption); obtain ⟨ad140, e140, hx140_0⟩ := Kd.at_string HR0.out x3_1 p140 q140; obtain rfl : ad137 = ad140 := (by injection e140); replace p140 := eq_true p140; replace q140 := eq_true q140)))
                    go_roundg k1
                    case measure => have := HK1.out; omega
                    case rel => exact ⟨(wrap64 (x3_1 + 1)), (by first | rfl | (simp; done) | (simp [*]; done)), H', ⟨by have := HK1.out; omega⟩, by repeat (first | exact Drawn0.refl _ | apply Drawn0.step)⟩
                  · rw [if_neg c10] at H
                    have c10b0 : (Op.bytesLess ((rdOf ByteArray.empty l0 (ji7)).toList) ((rdOf ByteArray.empty l0 x3_1).toList)) = false := by simpa using c10
                    clear c10
                    obtain rfl := Option.some.inj H
                    have p137 : 0 ≤ (x3_1 : Int) := of_decide_eq_true (by first | (with_reducible assumption) | assumption)
                    have q137 : x3_1 < (l0.length : Int) := of_decide_eq_true (by first | (with_reducible assumption) | assumption)
                    obtain ⟨ad137, e137, hx137_0⟩ := Kd.at_string HR0.out x3_1 p137 q137
                    cases e137
                    replace p137 := eq_true p137
                    replace q137 := eq_true q137
                    go_wp2_with (first | (go_at_call 111; (with_reducible refine (spec_NameOk.calls k1 (rdOf ByteArray.empty l0 x3_1) true _ A4.out).mono ?_); rintro e w' ⟨rfl, ⟨nd, rfl⟩⟩; (try first | exact ⟨rfl, _, World.drewN_drewN _ _ _⟩ | exact ⟨rfl, _, Eq.trans (World.drewN_drewN _ _ _) (congrArg (World.drewN _) (Nat.add_assoc _ _ _))⟩); have p139 : 0 ≤ ((ji7) : Int) := of_decide_eq_true (by first | (with_reducible assumption) | assumption); have q139 : (ji7) < (l0.length : Int) := of_decide_eq_true (by first | (with_reducible assumption) | assumption); obtain ⟨ad139, e139, hx139_0⟩ := Kd.at_string HR0.out (ji7) p139 q139; obtain rfl : ad137 = ad139 := (by injection e139); replace p139 := eq_true p139; replace q139 := eq_true q139; have p140 : 0 ≤ (x3_1 : Int) := of_decide_eq_true (by first | (with_reducible assumption) | assumption); have q140 : x3_1 < (l0.length : Int) := of_decide_eq_true (by first | (with_reducible assumption) | assumption); obtain ⟨ad140, e140, hx140_0⟩ := Kd.at_string HR0.out x3_1 p140 q140; obtain rfl : ad137 = ad140 := (by injection e140); replace p140 := eq_true p140; replace q140 := eq_true q140))
                    repeat (go_quiet (first | (go_at_call 111; (with_reducible refine (spec_NameOk.calls k1 (rdOf ByteArray.empty l0 x3_1) true _ A4.out).mono ?_); rintro e w' ⟨rfl, ⟨nd, rfl⟩⟩; (try first | exact ⟨rfl, _, World.drewN_drewN _ _ _⟩ | exact ⟨rfl, _, Eq.trans (World.drewN_drewN _ _ _) (congrArg (World.drewN _) (Nat.add_assoc _ _ _))⟩); have p139 : 0 ≤ ((ji7) : Int) := of_decide_eq_true (by first | (with_reducible assumption) | assumption); have q139 : (ji7) < (l0.length : Int) := of_decide_eq_true (by first | (with_reducible assumption) | assumption); obtain ⟨ad139, e139, hx139_0⟩ := Kd.at_string HR0.out (ji7) p139 q139; obtain rfl : ad137 = ad139 := (by injection e139); replace p139 := eq_true p139; replace q139 := eq_true q139; have p140 : 0 ≤ (x3_1 : Int) := of_decide_eq_true (by first | (with_reducible assumption) | assumption); have q140 : x3_1 < (l0.length : Int) := of_decide_eq_true (by first | (with_reducible assumption) | assumption); obtain ⟨ad140, e140, hx140_0⟩ := Kd.at_string HR0.out x3_1 p140 q140; obtain rfl : ad137 = ad140 := (by injection e140); replace p140 := eq_true p140; replace q140 := eq_true q140)); try go_wp2_with (first | (go_at_call 111; (with_reducible refine (spec_NameOk.calls k1 (rdOf ByteArray.empty l0 x3_1) true _ A4.out).mono ?_); rintro e w' ⟨rfl, ⟨nd, rfl⟩⟩; (try first | exact ⟨rfl, _, World.drewN_drewN _ _ _⟩ | exact ⟨rfl, _, Eq.trans (World.drewN_drewN _ _ _) (congrArg (World.drewN _) (Nat.add_assoc _ _ _))⟩); have p139 : 0 ≤ ((ji7) : Int) := of_decide_eq_true (by first | (with_reducible assumption) | assumption); have q139 : (ji7) < (l0.length : Int) := of_decide_eq_true (by first | (with_reducible assumption) | assumption); obtain ⟨ad139, e139, hx139_0⟩ := Kd.at_string HR0.out (ji7) p139 q139; obtain rfl : ad137 = ad139 := (by injection e139); replace p139 := eq_true p139; replace q139 := eq_true q139; have p140 : 0 ≤ (x3_1 : Int) := of_decide_eq_true (by first | (with_reducible assumption) | assumption); have q140 : x3_1 < (l0.length : Int) := of_decide_eq_true (by first | (with_reducible assumption) | assumption); obtain ⟨ad140, e140, hx140_0⟩ := Kd.at_string HR0.out x3_1 p140 q140; obtain rfl : ad137 = ad140 := (by injection e140); replace p140 := eq_true p140; replace q140 := eq_true q140)))
                    go_ret
                    exact ⟨by first | rfl | (simp; done) | (simp only [← hji7] <;> (first | rfl | simp)) | (simp [*]; done), by repeat (first | exact Drawn0.refl _ | apply Drawn0.step)⟩
                · rw [if_neg c9] at H
                  exact absurd H (by simp)
              · rw [if_neg c8] at H
                exact absurd H (by simp)
            · rw [if_neg c6] at H
              have c6b0 : decide (0 < x3_1) = false := decide_eq_false c6
              clear c6
              have H' := Aside0.mk H
              clear H
              have p137 : 0 ≤ (x3_1 : Int) := of_decide_eq_true (by first | (with_reducible assumption) | assumption)
              have q137 : x3_1 < (l0.length : Int) := of_decide_eq_true (by first | (with_reducible assumption) | assumption)
              obtain ⟨ad137, e137, hx137_0⟩ := Kd.at_string HR0.out x3_1 p137 q137
              cases e137
              replace p137 := eq_true p137
              replace q137 := eq_true q137
              go_wp2_with (first | (go_at_call 111; (with_reducible refine (spec_NameOk.calls k1 (rdOf ByteArray.empty l0 x3_1) true _ A4.out).mono ?_); rintro e w' ⟨rfl, ⟨nd, rfl⟩⟩; (try first | exact ⟨rfl, _, World.drewN_drewN _ _ _⟩ | exact ⟨rfl, _, Eq.trans (World.drewN_drewN _ _ _) (congrArg (World.drewN _) (Nat.add_assoc _ _ _))⟩)))
              repeat (go_quiet (first | (go_at_call 111; (with_reducible refine (spec_NameOk.calls k1 (rdOf ByteArray.empty l0 x3_1) true _ A4.out).mono ?_); rintro e w' ⟨rfl, ⟨nd, rfl⟩⟩; (try first | exact ⟨rfl, _, World.drewN_drewN _ _ _⟩ | exact ⟨rfl, _, Eq.trans (World.drewN_drewN _ _ _) (congrArg (World.drewN _) (Nat.add_assoc _ _ _))⟩))); try go_wp2_with (first | (go_at_call 111; (with_reducible refine (spec_NameOk.calls k1 (rdOf ByteArray.empty l0 x3_1) true _ A4.out).mono ?_); rintro e w' ⟨rfl, ⟨nd, rfl⟩⟩; (try first | exact ⟨rfl, _, World.drewN_drewN _ _ _⟩ | exact ⟨rfl, _, Eq.trans (World.drewN_drewN _ _ _) (congrArg (World.drewN _) (Nat.add_assoc _ _ _))⟩))))
              go_roundg k1
              case measure => have := HK1.out; omega
              case rel => exact ⟨(wrap64 (x3_1 + 1)), (by first | rfl | (simp; done) | (simp [*]; done)), H', ⟨by have := HK1.out; omega⟩, by repeat (first | exact Drawn0.refl _ | apply Drawn0.step)⟩
          · replace c5 := Bool.eq_false_iff.mpr c5
            subst c5
            have H1 : (some false) = some r := by rw [if_neg (show ¬ (false = true) by decide)] at H; exact H
            clear H
            have H := H1
            clear H1
            obtain rfl := Option.some.inj H
            have p137 : 0 ≤ (x3_1 : Int) := of_decide_eq_true (by first | (with_reducible assumption) | assumption)
            have q137 : x3_1 < (l0.length : Int) := of_decide_eq_true (by first | (with_reducible assumption) | assumption)
            obtain ⟨ad137, e137, hx137_0⟩ := Kd.at_string HR0.out x3_1 p137 q137
            cases e137
            replace p137 := eq_true p137
            replace q137 := eq_true q137
            go_wp2_with (first | (go_at_call 111; (with_reducible refine (spec_NameOk.calls k1 (rdOf ByteArray.empty l0 x3_1) false _ A4.out).mono ?_); rintro e w' ⟨rfl, ⟨nd, rfl⟩⟩; (try first | exact ⟨rfl, _, World.drewN_drewN _ _ _⟩ | exact ⟨rfl, _, Eq.trans (World.drewN_drewN _ _ _) (congrArg (World.drewN _) (Nat.add_assoc _ _ _))⟩)))
            repeat (go_quiet (first | (go_at_call 111; (with_reducible refine (spec_NameOk.calls k1 (rdOf ByteArray.empty l0 x3_1) false _ A4.out).mono ?_); rintro e w' ⟨rfl, ⟨nd, rfl⟩⟩; (try first | exact ⟨rfl, _, World.drewN_drewN _ _ _⟩ | exact ⟨rfl, _, Eq.trans (World.drewN_drewN _ _ _) (congrArg (World.drewN _) (Nat.add_assoc _ _ _))⟩))); try go_wp2_with (first | (go_at_call 111; (with_reducible refine (spec_NameOk.calls k1 (rdOf ByteArray.empty l0 x3_1) false _ A4.out).mono ?_); rintro e w' ⟨rfl, ⟨nd, rfl⟩⟩; (try first | exact ⟨rfl, _, World.drewN_drewN _ _ _⟩ | exact ⟨rfl, _, Eq.trans (World.drewN_drewN _ _ _) (congrArg (World.drewN _) (Nat.add_assoc _ _ _))⟩))))
            go_ret
            exact ⟨by first | rfl | (simp; done) | (simp [*]; done), by repeat (first | exact Drawn0.refl _ | apply Drawn0.step)⟩
        · rw [if_neg c3] at H
          exact absurd H (by simp)
      · rw [if_neg c2] at H
        have c2b0 : decide (x3_1 < (l0.length : Int)) = false := decide_eq_false c2
        clear c2
        obtain rfl := Option.some.inj H
        go_wp2
        repeat (go_quiet (fail); try go_wp2)
        go_ret
        exact ⟨by first | rfl | (simp; done) | (simp [*]; done), by repeat (first | exact Drawn0.refl _ | apply Drawn0.step)⟩

end Go.Proofs.Ytmoiacijklkfaaa.G

/- G117 -/
-- Laid by wip/g/gprint.py out of the translation, by the kit's print program. Lean checks it.
namespace Go.Proofs.Ytmoiacijklkfaaa.G
open Go.RowKit Go.Proofs.YtmoiacijklkfaaaW.PrintWords Go.Proofs.YtmoiacijklkfaaaW.PrintLast Go.Proofs.YtmoiacijklkfaaaW.PrintMore
attribute [local go_sem] max2_int min2_int max_two min_two max_three min_three max_four min_four   -- for this text's walks alone
set_option linter.unusedVariables false
set_option linter.unusedSimpArgs false

/-! ### impl_isKind: function 117 -/
def impl_isKind.f (a0 : Int) : Option (Bool) := (impl_within.f a0 1 3).bind fun t872 => (some t872)
set_option maxHeartbeats 8000000 in
set_option maxRecDepth 100000 in
theorem impl_isKind.calls (a0 : Int) (r : Bool) (w : World) (h : impl_isKind.f a0 = some r) :
    Calls Try.prog 117 #[.int .i64 a0] w fun e w' => e = .returned (.bool r) ∧ Drawn0 w w' := by
  have H : ((impl_within.f a0 1 3).bind fun t872 => (some t872)) = some r := h
  clear h
  replace H := Option.bind_eq_some_iff.mp H
  obtain ⟨t872, A20, H⟩ := H
  replace H : (some t872) = some r := H
  have A2 := Aside0.mk A20
  clear A20
  obtain rfl := Option.some.inj H
  go_enter Try.func117, Try.ntmps117
  go_wp2_with (first | ((with_reducible refine gate_callee (f := 71) rfl ?_); refine goesL_ (some 4) rfl rfl Try.func71 (by kernel_rfl) rfl #[.int .i64 a0, .int .i64 1, .int .i64 3] rfl (by (try simp only [List.map_toArray, List.map_cons, List.map_nil]); first | done | rfl | (simp only [List.length_drop, List.length_take]; rfl)) ?_; (with_reducible refine (impl_within.calls a0 1 3 t872 _ A2.out).mono ?_); rintro e w' ⟨rfl, ⟨nd, rfl⟩⟩; refine ⟨_, rfl, ?_⟩))
  go_ret
  exact ⟨by first | rfl | (simp; done) | (simp [*]; done), by repeat (first | exact Drawn0.refl _ | apply Drawn0.step)⟩

end Go.Proofs.Ytmoiacijklkfaaa.G

/- G155 -/
-- Laid by wip/g/gprint.py out of the translation, by the kit's print program. Lean checks it.
namespace Go.Proofs.Ytmoiacijklkfaaa.G
open Go.RowKit Go.Proofs.YtmoiacijklkfaaaW.PrintWords Go.Proofs.YtmoiacijklkfaaaW.PrintLast Go.Proofs.YtmoiacijklkfaaaW.PrintMore
attribute [local go_sem] max2_int min2_int max_two min_two max_three min_three max_four min_four   -- for this text's walks alone
set_option linter.unusedVariables false
set_option linter.unusedSimpArgs false

/-! ### cmp_isNaN_int: function 155 -/
def cmp_isNaN_int.f (a0 : Int) : Option (Bool) := some (a0 != a0)
set_option maxHeartbeats 8000000 in
set_option maxRecDepth 100000 in
theorem cmp_isNaN_int.calls (a0 : Int) (r : Bool) (w : World) (h : cmp_isNaN_int.f a0 = some r) :
    Calls Try.prog 155 #[.int .i64 a0] w fun e w' => e = .returned (.bool r) ∧ Drawn0 w w' := by
  have H : (some (a0 != a0)) = some r := h
  clear h
  obtain rfl := Option.some.inj H
  go_enter Try.func155, Try.ntmps155
  go_wp2
  go_ret
  exact ⟨by first | rfl | (simp; done) | (simp [*]; done), by repeat (first | exact Drawn0.refl _ | apply Drawn0.step)⟩

end Go.Proofs.Ytmoiacijklkfaaa.G

/- G145 -/
-- Laid by wip/g/gprint.py out of the translation, by the kit's print program. Lean checks it.
namespace Go.Proofs.Ytmoiacijklkfaaa.G
open Go.RowKit Go.Proofs.YtmoiacijklkfaaaW.PrintWords Go.Proofs.YtmoiacijklkfaaaW.PrintLast Go.Proofs.YtmoiacijklkfaaaW.PrintMore
attribute [local go_sem] max2_int min2_int max_two min_two max_three min_three max_four min_four   -- for this text's walks alone
set_option linter.unusedVariables false
set_option linter.unusedSimpArgs false

/-! ### cmp_Compare_int: function 145 -/
def cmp_Compare_int.f (a0 : Int) (a1 : Int) : Option (Int) := (cmp_isNaN_int.f a0).bind fun t886 => ((cmp_isNaN_int.f a1).bind fun t887 => (if t886 = true then (if t887 = true then (some 0) else (some (-1))) else (if t887 = true then (some 1) else (if a0 < a1 then (some (-1)) else (if a0 > a1 then (some 1) else (some 0))))))
set_option maxHeartbeats 8000000 in
set_option maxRecDepth 100000 in
theorem cmp_Compare_int.calls (a0 : Int) (a1 : Int) (r : Int) (w : World) (h : cmp_Compare_int.f a0 a1 = some r) :
    Calls Try.prog 145 #[.int .i64 a0, .int .i64 a1] w fun e w' => e = .returned (.int .i64 r) ∧ Drawn0 w w' := by
  have H : ((cmp_isNaN_int.f a0).bind fun t886 => ((cmp_isNaN_int.f a1).bind fun t887 => (if t886 = true then (if t887 = true then (some 0) else (some (-1))) else (if t887 = true then (some 1) else (if a0 < a1 then (some (-1)) else (if a0 > a1 then (some 1) else (some 0))))))) = some r := h
  clear h
  replace H := Option.bind_eq_some_iff.mp H
  obtain ⟨t886, A30, H⟩ := H
  replace H : ((cmp_isNaN_int.f a1).bind fun t887 => (if t886 = true then (if t887 = true then (some 0) else (some (-1))) else (if t887 = true then (some 1) else (if a0 < a1 then (some (-1)) else (if a0 > a1 then (some 1) else (some 0)))))) = some r := H
  have A3 := Aside0.mk A30
  clear A30
  replace H := Option.bind_eq_some_iff.mp H
  obtain ⟨t887, A40, H⟩ := H
  replace H : (if t886 = true then (if t887 = true then (some 0) else (some (-1))) else (if t887 = true then (some 1) else (if a0 < a1 then (some (-1)) else (if a0 > a1 then (some 1) else (some 0))))) = some r := H
  have A4 := Aside0.mk A40
  clear A40
  by_cases c5 : t886 = true
  · subst c5
    have H1 : (if t887 = true then (some 0) else (some (-1))) = some r := by rw [if_pos rfl] at H; exact H
    clear H
    have H := H1
    clear H1
    by_cases c6 : t887 = true
    · subst c6
      have H1 : (some 0) = some r := by rw [if_pos rfl] at H; exact H
      clear H
      have H := H1
      clear H1
      obtain rfl := Option.some.inj H
      go_enter Try.func145, Try.ntmps145
      go_wp2_with (first | ((with_reducible refine gate_callee (f := 155) rfl ?_); refine goesL_ (some 8) rfl rfl Try.func155 (by kernel_rfl) rfl #[.int .i64 a0] rfl (by (try simp only [List.map_toArray, List.map_cons, List.map_nil]); first | done | rfl | (simp only [List.length_drop, List.length_take]; rfl)) ?_; (with_reducible refine (cmp_isNaN_int.calls a0 true _ A3.out).mono ?_); rintro e w' ⟨rfl, ⟨nd, rfl⟩⟩; refine ⟨_, rfl, ?_⟩) | ((with_reducible refine gate_callee (f := 155) rfl ?_); refine goesL_ (some 10) rfl rfl Try.func155 (by kernel_rfl) rfl #[.int .i64 a1] rfl (by (try simp only [List.map_toArray, List.map_cons, List.map_nil]); first | done | rfl | (simp only [List.length_drop, List.length_take]; rfl)) ?_; (with_reducible refine (cmp_isNaN_int.calls a1 true _ A4.out).mono ?_); rintro e w' ⟨rfl, ⟨nd, rfl⟩⟩; refine ⟨_, rfl, ?_⟩))
      go_ret
      exact ⟨by first | rfl | (simp; done) | (simp [*]; done), by repeat (first | exact Drawn0.refl _ | apply Drawn0.step)⟩
    · replace c6 := Bool.eq_false_iff.mpr c6
      subst c6
      have H1 : (some (-1)) = some r := by rw [if_neg (show ¬ (false = true) by decide)] at H; exact H
      clear H
      have H := H1
      clear H1
      obtain rfl := Option.some.inj H
      go_enter Try.func145, Try.ntmps145
      go_wp2_with (first | ((with_reducible refine gate_callee (f := 155) rfl ?_); refine goesL_ (some 8) rfl rfl Try.func155 (by kernel_rfl) rfl #[.int .i64 a0] rfl (by (try simp only [List.map_toArray, List.map_cons, List.map_nil]); first | done | rfl | (simp only [List.length_drop, List.length_take]; rfl)) ?_; (with_reducible refine (cmp_isNaN_int.calls a0 true _ A3.out).mono ?_); rintro e w' ⟨rfl, ⟨nd, rfl⟩⟩; refine ⟨_, rfl, ?_⟩) | ((with_reducible refine gate_callee (f := 155) rfl ?_); refine goesL_ (some 10) rfl rfl Try.func155 (by kernel_rfl) rfl #[.int .i64 a1] rfl (by (try simp only [List.map_toArray, List.map_cons, List.map_nil]); first | done | rfl | (simp only [List.length_drop, List.length_take]; rfl)) ?_; (with_reducible refine (cmp_isNaN_int.calls a1 false _ A4.out).mono ?_); rintro e w' ⟨rfl, ⟨nd, rfl⟩⟩; refine ⟨_, rfl, ?_⟩))
      go_ret
      exact ⟨by first | rfl | (simp; done) | (simp [*]; done), by repeat (first | exact Drawn0.refl _ | apply Drawn0.step)⟩
  · replace c5 := Bool.eq_false_iff.mpr c5
    subst c5
    have H1 : (if t887 = true then (some 1) else (if a0 < a1 then (some (-1)) else (if a0 > a1 then (some 1) else (some 0)))) = some r := by rw [if_neg (show ¬ (false = true) by decide)] at H; exact H
    clear H
    have H := H1
    clear H1
    by_cases c7 : t887 = true
    · subst c7
      have H1 : (some 1) = some r := by rw [if_pos rfl] at H; exact H
      clear H
      have H := H1
      clear H1
      obtain rfl := Option.some.inj H
      go_enter Try.func145, Try.ntmps145
      go_wp2_with (first | ((with_reducible refine gate_callee (f := 155) rfl ?_); refine goesL_ (some 8) rfl rfl Try.func155 (by kernel_rfl) rfl #[.int .i64 a0] rfl (by (try simp only [List.map_toArray, List.map_cons, List.map_nil]); first | done | rfl | (simp only [List.length_drop, List.length_take]; rfl)) ?_; (with_reducible refine (cmp_isNaN_int.calls a0 false _ A3.out).mono ?_); rintro e w' ⟨rfl, ⟨nd, rfl⟩⟩; refine ⟨_, rfl, ?_⟩) | ((with_reducible refine gate_callee (f := 155) rfl ?_); refine goesL_ (some 10) rfl rfl Try.func155 (by kernel_rfl) rfl #[.int .i64 a1] rfl (by (try simp only [List.map_toArray, List.map_cons, List.map_nil]); first | done | rfl | (simp only [List.length_drop, List.length_take]; rfl)) ?_; (with_reducible refine (cmp_isNaN_int.calls a1 true _ A4.out).mono ?_); rintro e w' ⟨rfl, ⟨nd, rfl⟩⟩; refine ⟨_, rfl, ?_⟩))
      go_ret
      exact ⟨by first | rfl | (simp; done) | (simp [*]; done), by repeat (first | exact Drawn0.refl _ | apply Drawn0.step)⟩
    · replace c7 := Bool.eq_false_iff.mpr c7
      subst c7
      have H1 : (if a0 < a1 then (some (-1)) else (if a0 > a1 then (some 1) else (some 0))) = some r := by rw [if_neg (show ¬ (false = true) by decide)] at H; exact H
      clear H
      have H := H1
      clear H1
      by_cases c8 : a0 < a1
      · rw [if_pos c8] at H
        have c8b0 : decide (a0 < a1) = true := decide_eq_true c8
        clear c8
        obtain rfl := Option.some.inj H
        go_enter Try.func145, Try.ntmps145
        go_wp2_with (first | ((with_reducible refine gate_callee (f := 155) rfl ?_); refine goesL_ (some 8) rfl rfl Try.func155 (by kernel_rfl) rfl #[.int .i64 a0] rfl (by (try simp only [List.map_toArray, List.map_cons, List.map_nil]); first | done | rfl | (simp only [List.length_drop, List.length_take]; rfl)) ?_; (with_reducible refine (cmp_isNaN_int.calls a0 false _ A3.out).mono ?_); rintro e w' ⟨rfl, ⟨nd, rfl⟩⟩; refine ⟨_, rfl, ?_⟩) | ((with_reducible refine gate_callee (f := 155) rfl ?_); refine goesL_ (some 10) rfl rfl Try.func155 (by kernel_rfl) rfl #[.int .i64 a1] rfl (by (try simp only [List.map_toArray, List.map_cons, List.map_nil]); first | done | rfl | (simp only [List.length_drop, List.length_take]; rfl)) ?_; (with_reducible refine (cmp_isNaN_int.calls a1 false _ A4.out).mono ?_); rintro e w' ⟨rfl, ⟨nd, rfl⟩⟩; refine ⟨_, rfl, ?_⟩))
        go_ret
        exact ⟨by first | rfl | (simp; done) | (simp [*]; done), by repeat (first | exact Drawn0.refl _ | apply Drawn0.step)⟩
      · rw [if_neg c8] at H
        have c8b0 : decide (a0 < a1) = false := decide_eq_false c8
        clear c8
        by_cases c9 : a0 > a1
        · rw [if_pos c9] at H
          have c9b0 : decide (a1 < a0) = true := decide_eq_true c9
          clear c9
          obtain rfl := Option.some.inj H
          go_enter Try.func145, Try.ntmps145
          go_wp2_with (first | ((with_reducible refine gate_callee (f := 155) rfl ?_); refine goesL_ (some 8) rfl rfl Try.func155 (by kernel_rfl) rfl #[.int .i64 a0] rfl (by (try simp only [List.map_toArray, List.map_cons, List.map_nil]); first | done | rfl | (simp only [List.length_drop, List.length_take]; rfl)) ?_; (with_reducible refine (cmp_isNaN_int.calls a0 false _ A3.out).mono ?_); rintro e w' ⟨rfl, ⟨nd, rfl⟩⟩; refine ⟨_, rfl, ?_⟩) | ((with_reducible refine gate_callee (f := 155) rfl ?_); refine goesL_ (some 10) rfl rfl Try.func155 (by kernel_rfl) rfl #[.int .i64 a1] rfl (by (try simp only [List.map_toArray, List.map_cons, List.map_nil]); first | done | rfl | (simp only [List.length_drop, List.length_take]; rfl)) ?_; (with_reducible refine (cmp_isNaN_int.calls a1 false _ A4.out).mono ?_); rintro e w' ⟨rfl, ⟨nd, rfl⟩⟩; refine ⟨_, rfl, ?_⟩))
          go_ret
          exact ⟨by first | rfl | (simp; done) | (simp [*]; done), by repeat (first | exact Drawn0.refl _ | apply Drawn0.step)⟩
        · rw [if_neg c9] at H
          have c9b0 : decide (a1 < a0) = false := decide_eq_false c9
          clear c9
          obtain rfl := Option.some.inj H
          go_enter Try.func145, Try.ntmps145
          go_wp2_with (first | ((with_reducible refine gate_callee (f := 155) rfl ?_); refine goesL_ (some 8) rfl rfl Try.func155 (by kernel_rfl) rfl #[.int .i64 a0] rfl (by (try simp only [List.map_toArray, List.map_cons, List.map_nil]); first | done | rfl | (simp only [List.length_drop, List.length_take]; rfl)) ?_; (with_reducible refine (cmp_isNaN_int.calls a0 false _ A3.out).mono ?_); rintro e w' ⟨rfl, ⟨nd, rfl⟩⟩; refine ⟨_, rfl, ?_⟩) | ((with_reducible refine gate_callee (f := 155) rfl ?_); refine goesL_ (some 10) rfl rfl Try.func155 (by kernel_rfl) rfl #[.int .i64 a1] rfl (by (try simp only [List.map_toArray, List.map_cons, List.map_nil]); first | done | rfl | (simp only [List.length_drop, List.length_take]; rfl)) ?_; (with_reducible refine (cmp_isNaN_int.calls a1 false _ A4.out).mono ?_); rintro e w' ⟨rfl, ⟨nd, rfl⟩⟩; refine ⟨_, rfl, ?_⟩))
          go_ret
          exact ⟨by first | rfl | (simp; done) | (simp [*]; done), by repeat (first | exact Drawn0.refl _ | apply Drawn0.step)⟩

end Go.Proofs.Ytmoiacijklkfaaa.G

/- GKObjOk -/
/-
  Objects that are right: the reference's test and the program's.
-/
namespace Go.Proofs.Ytmoiacijklkfaaa.G
open Go.RowKit Go.Proofs.YtmoiacijklkfaaaW.PrintWords Go.Proofs.YtmoiacijklkfaaaW.PrintLast Go.Proofs.YtmoiacijklkfaaaW.PrintMore
attribute [local go_sem] max2_int min2_int max_two min_two max_three min_three max_four min_four
set_option linter.unusedVariables false
set_option linter.unusedSimpArgs false
def waitsB (l : List ByteArray) : Bool := namsB l && decide ((l.length : Int) ≤ 4)
theorem l7Waits_ev (xs : List ByteArray) (h : wfStrs xs) : Ev (fun k => spec_l7Waits.f k xs) (waitsB xs) := by
  unfold spec_l7Waits.f waitsB namsB
  refine loop_all (g := fun k i => spec_l7Waits.l0 k xs i) xs.length _ _ ?_ ?_ ?_
  · intro i hi hok r hr
    refine Ev.step (fun k => by rw [spec_l7Waits.l0]) ?_
    simp only [wsucc hi h.1]
    refine ev_if_pos (by omega) (ev_if_pos (by omega) (Ev.bind (specNameOk_ev _ (wfStrs_at h hi)) (ev_if_pos (namOk_name hok) (ev_if (fun c => ?_) (fun c => hr)))))
    simp only [wpred (by omega : 0 < i) hi h.1]
    exact ev_if_pos (by omega) (ev_if_pos (by omega) (ev_if_pos (namOk_less hok (by omega)) hr))
  · intro i hi hok
    refine Ev.step (fun k => by rw [spec_l7Waits.l0]) ?_
    refine ev_if_pos (by omega) (ev_if_pos (by omega) (Ev.bind (specNameOk_ev _ (wfStrs_at h hi)) (ev_if (fun c0 => ?_) (fun _ => Ev.now _))))
    obtain ⟨h0, hl⟩ := namOk_false hok c0
    simp only [wpred h0 hi h.1]
    exact ev_if_pos (by omega) (ev_if_pos (by omega) (ev_if_pos (by omega) (ev_if_neg (by rw [hl]; simp) (Ev.now _))))
  · exact Ev.step (fun k => by rw [spec_l7Waits.l0]) (ev_if_neg (by omega) (Ev.now _))
theorem isKind_f (n : Int) : impl_isKind.f n = some (inB n 1 3) := by
  unfold impl_isKind.f
  rw [within_f]; rfl
/-- The fields of an object that are right, but its values. -/
def objB0 (x : IObj) (rev next : Int) : Bool := inB x.f0 1 3 && (nameB x.f1 && (inB x.f2 1 (next - 1) && (inB x.f3 1 rev && (inB x.f4 1 x.f3 && waitsB x.f6))))
def endB (x : IObj) (gone : Bool) : Bool := gone || (!x.f5 || decide (0 < x.f6.length))
/-- An object that is right. -/
def objB (x : IObj) (rev next : Int) (gone : Bool) : Bool := objB0 x rev next && (valB x.f7 && (valB x.f8 && endB x gone))
/-- What is small enough to be looked at. -/
def SmX (n : Nat) (x : IObj) : Prop := x.f1.size ≤ 9223372036854775807 ∧ wfStrs x.f6 ∧ SmI n x.f7 ∧ SmI n x.f8
theorem ob_c05 {w : World} {g : Nat} {x : IObj} {v6 v10 v11 v15 v16 : Value} (h : w.heap[g]? = some (.cells (obC x v6 v10 v11 v15 v16) 46 (0, 0))) : w.cell? ⟨g, 0, none⟩ = some (.int .i64 x.f0) ∧ w.cell? ⟨g, 1, none⟩ = some (.string x.f1) ∧ w.cell? ⟨g, 2, none⟩ = some (.int .i64 x.f2) ∧ w.cell? ⟨g, 3, none⟩ = some (.int .i64 x.f3) ∧ w.cell? ⟨g, 4, none⟩ = some (.int .i64 x.f4) ∧ w.cell? ⟨g, 5, none⟩ = some (.bool x.f5) ∧ w.cell? ⟨g, 6, none⟩ = some v6 := ⟨ob_cell h 0 rfl, ob_cell h 1 rfl, ob_cell h 2 rfl, ob_cell h 3 rfl, ob_cell h 4 rfl, ob_cell h 5 rfl, ob_cell h 6 rfl⟩
set_option maxHeartbeats 16000000 in
set_option maxRecDepth 100000 in
theorem l7Obj_calls (n : Nat) (x : IObj) (rev next : Int) (gone : Bool) (cs : List Value) (w : World) (hk : k46.K w x cs) (hs : SmX n x) (hn1 : 1 ≤ next) (hn2 : next ≤ 1000000) :
    Calls Try.prog 70 #[.agg cs.toArray, .int .i64 rev, .int .i64 next, .bool gone] w fun e w' => e = .returned (.bool (objB x rev next gone)) ∧ Below w.heap.size w w' := by
  obtain ⟨A6, c6, A10, c10, A11, c11, A15, c15, A16, c16, rfl, l6, g6, l10, g10, l11, g11, l15, g15, l16, g16⟩ := k46_open hk
  obtain ⟨hs1, hs6, hs7, hs8⟩ := hs
  obtain ⟨W1, hW1⟩ : ∃ W1, w.alloc (.cells #[.int .i64 x.f0, .string x.f1, .int .i64 x.f2, .int .i64 x.f3, .int .i64 x.f4, .bool x.f5, .slice A6 x.f6.length c6, .int .i64 x.f7.f0, .string x.f7.f1, .int .i64 x.f7.f2, .slice A10 x.f7.f3.length c10, .slice A11 x.f7.f4.length c11, .int .i64 x.f8.f0, .string x.f8.f1, .int .i64 x.f8.f2, .slice A15 x.f8.f3.length c15, .slice A16 x.f8.f4.length c16] 46) = W1 := ⟨_, rfl⟩
  have hbA := below_alloc (Below.refl w.heap.size w) (.cells #[.int .i64 x.f0, .string x.f1, .int .i64 x.f2, .int .i64 x.f3, .int .i64 x.f4, .bool x.f5, .slice A6 x.f6.length c6, .int .i64 x.f7.f0, .string x.f7.f1, .int .i64 x.f7.f2, .slice A10 x.f7.f3.length c10, .slice A11 x.f7.f4.length c11, .int .i64 x.f8.f0, .string x.f8.f1, .int .i64 x.f8.f2, .slice A15 x.f8.f3.length c15, .slice A16 x.f8.f4.length c16] 46)
  have hb0 := blk_new w (.cells #[.int .i64 x.f0, .string x.f1, .int .i64 x.f2, .int .i64 x.f3, .int .i64 x.f4, .bool x.f5, .slice A6 x.f6.length c6, .int .i64 x.f7.f0, .string x.f7.f1, .int .i64 x.f7.f2, .slice A10 x.f7.f3.length c10, .slice A11 x.f7.f4.length c11, .int .i64 x.f8.f0, .string x.f8.f1, .int .i64 x.f8.f2, .slice A15 x.f8.f3.length c15, .slice A16 x.f8.f4.length c16] 46)
  rw [hW1] at hbA hb0
  have HW1 := Lib.hid hW1
  have HBA := Lib.hid hbA
  have Q1 : Hid (W1.heap[w.heap.size]? = some (.cells (obC x (.slice A6 x.f6.length c6) (.slice A10 x.f7.f3.length c10) (.slice A11 x.f7.f4.length c11) (.slice A15 x.f8.f3.length c15) (.slice A16 x.f8.f4.length c16)) 46 (0, 0))) := Lib.hid hb0
  have N1 := Lib.hid (Below.refl W1.heap.size W1)
  have G6 := Lib.hid (Kd.C_below g6 hbA)
  have G10 := Lib.hid (Kd.C_below g10 hbA)
  have G11 := Lib.hid (Kd.C_below g11 hbA)
  have G15 := Lib.hid (Kd.C_below g15 hbA)
  have G16 := Lib.hid (Kd.C_below g16 hbA)
  have H1 := Lib.hid hs1
  have H6 := Lib.hid hs6
  have H7 := Lib.hid hs7
  have H8 := Lib.hid hs8
  clear hk g6 g10 g11 g15 g16 hW1 hbA hb0 hs1 hs6 hs7 hs8
  go_enter Try.func70, Try.ntmps70
  go_wp2_with fail
  rw [HW1.out]
  refine (spec_l1In.calls x.f0 1 3 _ W1 (l1In_f _ _ _)).mono ?_
  rintro e w2 ⟨rfl, hd⟩
  have N2 := Lib.hid (below_step N1.out hd.below)
  have Q2 := Lib.hid ((hd.below.block _ (blk_lt Q1.out)).trans Q1.out)
  clear hd Q1
  clear HW1
  cases hb0 : inB x.f0 1 3
  case false =>
    have hz : objB x rev next gone = false := by simp [objB, objB0, hb0]
    have HZ := Lib.hid hz
    clear hb0 hz
    go_wp2
    go_ret
    exact ⟨by rw [HZ.out]; first | done | rfl, below_step HBA.out N2.out⟩
  obtain ⟨a0, a1, a2, a3, a4, a5, a6⟩ := ob_c05 Q2.out
  obtain ⟨s7, s8, s9, s10, s11⟩ := ob_c7 Q2.out
  obtain ⟨t7, t8, t9, t10, t11⟩ := ob_c8 Q2.out
  go_wp2_with fail
  clear a0 a1 a2 a3 a4 a5 a6 s7 s8 s9 s10 s11 t7 t8 t9 t10 t11
  obtain ⟨K1, e1⟩ := specNameOk_ev x.f1 H1.out
  refine (spec_NameOk.calls K1 x.f1 _ w2 (e1 K1 (Nat.le_refl _))).mono ?_
  rintro e w3 ⟨rfl, hd⟩
  have N3 := Lib.hid (below_step N2.out hd.below)
  have Q3 := Lib.hid ((hd.below.block _ (blk_lt Q2.out)).trans Q2.out)
  clear hd Q2
  cases hb1 : nameB x.f1
  case false =>
    have hz : objB x rev next gone = false := by simp [objB, objB0, hb0, hb1]
    have HZ := Lib.hid hz
    clear hb0 hb1 hz
    go_wp2
    go_ret
    exact ⟨by rw [HZ.out]; first | done | rfl, below_step HBA.out N3.out⟩
  obtain ⟨a0, a1, a2, a3, a4, a5, a6⟩ := ob_c05 Q3.out
  obtain ⟨s7, s8, s9, s10, s11⟩ := ob_c7 Q3.out
  obtain ⟨t7, t8, t9, t10, t11⟩ := ob_c8 Q3.out
  go_wp2_with fail
  clear a0 a1 a2 a3 a4 a5 a6 s7 s8 s9 s10 s11 t7 t8 t9 t10 t11
  refine (spec_l1In.calls x.f2 1 (next - 1) _ w3 (l1In_f _ _ _)).mono ?_
  rintro e w4 ⟨rfl, hd⟩
  have N4 := Lib.hid (below_step N3.out hd.below)
  have Q4 := Lib.hid ((hd.below.block _ (blk_lt Q3.out)).trans Q3.out)
  clear hd Q3
  cases hb2 : inB x.f2 1 (next - 1)
  case false =>
    have hz : objB x rev next gone = false := by simp [objB, objB0, hb0, hb1, hb2]
    have HZ := Lib.hid hz
    clear hb0 hb1 hb2 hz
    go_wp2
    go_ret
    exact ⟨by rw [HZ.out]; first | done | rfl, below_step HBA.out N4.out⟩
  obtain ⟨a0, a1, a2, a3, a4, a5, a6⟩ := ob_c05 Q4.out
  obtain ⟨s7, s8, s9, s10, s11⟩ := ob_c7 Q4.out
  obtain ⟨t7, t8, t9, t10, t11⟩ := ob_c8 Q4.out
  go_wp2_with fail
  clear a0 a1 a2 a3 a4 a5 a6 s7 s8 s9 s10 s11 t7 t8 t9 t10 t11
  refine (spec_l1In.calls x.f3 1 rev _ w4 (l1In_f _ _ _)).mono ?_
  rintro e w5 ⟨rfl, hd⟩
  have N5 := Lib.hid (below_step N4.out hd.below)
  have Q5 := Lib.hid ((hd.below.block _ (blk_lt Q4.out)).trans Q4.out)
  clear hd Q4
  cases hb3 : inB x.f3 1 rev
  case false =>
    have hz : objB x rev next gone = false := by simp [objB, objB0, hb0, hb1, hb2, hb3]
    have HZ := Lib.hid hz
    clear hb0 hb1 hb2 hb3 hz
    go_wp2
    go_ret
    exact ⟨by rw [HZ.out]; first | done | rfl, below_step HBA.out N5.out⟩
  obtain ⟨a0, a1, a2, a3, a4, a5, a6⟩ := ob_c05 Q5.out
  obtain ⟨s7, s8, s9, s10, s11⟩ := ob_c7 Q5.out
  obtain ⟨t7, t8, t9, t10, t11⟩ := ob_c8 Q5.out
  go_wp2_with fail
  clear a0 a1 a2 a3 a4 a5 a6 s7 s8 s9 s10 s11 t7 t8 t9 t10 t11
  refine (spec_l1In.calls x.f4 1 x.f3 _ w5 (l1In_f _ _ _)).mono ?_
  rintro e w6 ⟨rfl, hd⟩
  have N6 := Lib.hid (below_step N5.out hd.below)
  have Q6 := Lib.hid ((hd.below.block _ (blk_lt Q5.out)).trans Q5.out)
  clear hd Q5
  cases hb4 : inB x.f4 1 x.f3
  case false =>
    have hz : objB x rev next gone = false := by simp [objB, objB0, hb0, hb1, hb2, hb3, hb4]
    have HZ := Lib.hid hz
    clear hb0 hb1 hb2 hb3 hb4 hz
    go_wp2
    go_ret
    exact ⟨by rw [HZ.out]; first | done | rfl, below_step HBA.out N6.out⟩
  obtain ⟨a0, a1, a2, a3, a4, a5, a6⟩ := ob_c05 Q6.out
  obtain ⟨s7, s8, s9, s10, s11⟩ := ob_c7 Q6.out
  obtain ⟨t7, t8, t9, t10, t11⟩ := ob_c8 Q6.out
  go_wp2_with fail
  clear a0 a1 a2 a3 a4 a5 a6 s7 s8 s9 s10 s11 t7 t8 t9 t10 t11
  obtain ⟨K6, e6⟩ := l7Waits_ev x.f6 H6.out
  refine (spec_l7Waits.calls K6 A6 c6 x.f6 _ w6 (Kd.C_below G6.out N6.out) l6 (e6 K6 (Nat.le_refl _))).mono ?_
  rintro e w7 ⟨rfl, hd⟩
  have N7 := Lib.hid (below_step N6.out hd.below)
  have Q7 := Lib.hid ((hd.below.block _ (blk_lt Q6.out)).trans Q6.out)
  clear hd Q6
  cases hb5 : waitsB x.f6
  case false =>
    have hz : objB x rev next gone = false := by simp [objB, objB0, hb0, hb1, hb2, hb3, hb4, hb5]
    have HZ := Lib.hid hz
    clear hb0 hb1 hb2 hb3 hb4 hb5 hz
    go_wp2
    go_ret
    exact ⟨by rw [HZ.out]; first | done | rfl, below_step HBA.out N7.out⟩
  obtain ⟨a0, a1, a2, a3, a4, a5, a6⟩ := ob_c05 Q7.out
  obtain ⟨s7, s8, s9, s10, s11⟩ := ob_c7 Q7.out
  obtain ⟨t7, t8, t9, t10, t11⟩ := ob_c8 Q7.out
  go_wp2_with fail
  clear a0 a1 a2 a3 a4 a5 a6 s7 s8 s9 s10 s11 t7 t8 t9 t10 t11
  obtain ⟨K7, e7⟩ := specValueOk_ev x.f7 H7.out
  refine (spec_ValueOk.calls K7 x.f7.f0 x.f7.f1 x.f7.f2 A10 c10 x.f7.f3 A11 c11 x.f7.f4 _ w7 (Kd.C_below G10.out N7.out) l10 (Kd.C_below G11.out N7.out) l11 (e7 K7 (Nat.le_refl _))).mono ?_
  rintro e w8 ⟨rfl, hd⟩
  have N8 := Lib.hid (below_step N7.out hd)
  have Q8 := Lib.hid ((hd.block _ (blk_lt Q7.out)).trans Q7.out)
  clear hd Q7
  cases hb6 : valB x.f7
  case false =>
    have hz : objB x rev next gone = false := by simp [objB, objB0, hb0, hb1, hb2, hb3, hb4, hb5, hb6]
    have HZ := Lib.hid hz
    clear hb0 hb1 hb2 hb3 hb4 hb5 hb6 hz
    go_wp2
    go_ret
    exact ⟨by rw [HZ.out]; first | done | rfl, below_step HBA.out N8.out⟩
  obtain ⟨a0, a1, a2, a3, a4, a5, a6⟩ := ob_c05 Q8.out
  obtain ⟨s7, s8, s9, s10, s11⟩ := ob_c7 Q8.out
  obtain ⟨t7, t8, t9, t10, t11⟩ := ob_c8 Q8.out
  go_wp2_with fail
  clear a0 a1 a2 a3 a4 a5 a6 s7 s8 s9 s10 s11 t7 t8 t9 t10 t11
  obtain ⟨K8, e8⟩ := specValueOk_ev x.f8 H8.out
  refine (spec_ValueOk.calls K8 x.f8.f0 x.f8.f1 x.f8.f2 A15 c15 x.f8.f3 A16 c16 x.f8.f4 _ w8 (Kd.C_below G15.out N8.out) l15 (Kd.C_below G16.out N8.out) l16 (e8 K8 (Nat.le_refl _))).mono ?_
  rintro e w9 ⟨rfl, hd⟩
  have N9 := Lib.hid (below_step N8.out hd)
  have Q9 := Lib.hid ((hd.block _ (blk_lt Q8.out)).trans Q8.out)
  clear hd Q8
  cases hb7 : valB x.f8
  case false =>
    have hz : objB x rev next gone = false := by simp [objB, objB0, hb0, hb1, hb2, hb3, hb4, hb5, hb6, hb7]
    have HZ := Lib.hid hz
    clear hb0 hb1 hb2 hb3 hb4 hb5 hb6 hb7 hz
    go_wp2
    go_ret
    exact ⟨by rw [HZ.out]; first | done | rfl, below_step HBA.out N9.out⟩
  have hz : objB x rev next gone = endB x gone := by simp [objB, objB0, hb0, hb1, hb2, hb3, hb4, hb5, hb6, hb7]
  have HZ := Lib.hid hz
  clear hb0 hb1 hb2 hb3 hb4 hb5 hb6 hb7 hz
  obtain ⟨a0, a1, a2, a3, a4, a5, a6⟩ := ob_c05 Q9.out
  cases gone with
  | true =>
    go_wp2
    go_ret
    exact ⟨by rw [HZ.out]; first | done | rfl, below_step HBA.out N9.out⟩
  | false =>
    cases h5 : x.f5 with
    | false =>
      have H5 := Lib.hid h5
      rw [h5] at a5
      clear h5
      go_wp2
      go_ret
      exact ⟨by rw [HZ.out, endB, H5.out]; first | done | rfl, below_step HBA.out N9.out⟩
    | true =>
      have H5 := Lib.hid h5
      rw [h5] at a5
      clear h5
      by_cases c6_ : 0 < x.f6.length
      · have D6 := Lib.hid (decide_eq_true c6_)
        go_wp2
        go_ret
        exact ⟨by rw [HZ.out, endB, H5.out, D6.out]; first | done | rfl, below_step HBA.out N9.out⟩
      · have D6 := Lib.hid (decide_eq_false c6_)
        go_wp2
        go_ret
        exact ⟨by rw [HZ.out, endB, H5.out, D6.out]; first | done | rfl, below_step HBA.out N9.out⟩
set_option maxHeartbeats 16000000 in
set_option maxRecDepth 100000 in
theorem objOk_calls (n : Nat) (x : IObj) (rev next : Int) (gone : Bool) (cs : List Value) (w : World) (hk : k46.K w x cs) (hs : SmX n x) (hn1 : 1 ≤ next) (hn2 : next ≤ 1000000) :
    Calls Try.prog 73 #[.agg cs.toArray, .int .i64 (next - 1), .int .i64 rev, .bool gone] w fun e w' => e = .returned (.bool (objB x rev next gone)) ∧ Below w.heap.size w w' := by
  obtain ⟨A6, c6, A10, c10, A11, c11, A15, c15, A16, c16, rfl, l6, g6, l10, g10, l11, g11, l15, g15, l16, g16⟩ := k46_open hk
  obtain ⟨hs1, hs6, hs7, hs8⟩ := hs
  obtain ⟨W1, hW1⟩ : ∃ W1, w.alloc (.cells #[.int .i64 x.f0, .string x.f1, .int .i64 x.f2, .int .i64 x.f3, .int .i64 x.f4, .bool x.f5, .slice A6 x.f6.length c6, .int .i64 x.f7.f0, .string x.f7.f1, .int .i64 x.f7.f2, .slice A10 x.f7.f3.length c10, .slice A11 x.f7.f4.length c11, .int .i64 x.f8.f0, .string x.f8.f1, .int .i64 x.f8.f2, .slice A15 x.f8.f3.length c15, .slice A16 x.f8.f4.length c16] 46) = W1 := ⟨_, rfl⟩
  have hbA := below_alloc (Below.refl w.heap.size w) (.cells #[.int .i64 x.f0, .string x.f1, .int .i64 x.f2, .int .i64 x.f3, .int .i64 x.f4, .bool x.f5, .slice A6 x.f6.length c6, .int .i64 x.f7.f0, .string x.f7.f1, .int .i64 x.f7.f2, .slice A10 x.f7.f3.length c10, .slice A11 x.f7.f4.length c11, .int .i64 x.f8.f0, .string x.f8.f1, .int .i64 x.f8.f2, .slice A15 x.f8.f3.length c15, .slice A16 x.f8.f4.length c16] 46)
  have hb0 := blk_new w (.cells #[.int .i64 x.f0, .string x.f1, .int .i64 x.f2, .int .i64 x.f3, .int .i64 x.f4, .bool x.f5, .slice A6 x.f6.length c6, .int .i64 x.f7.f0, .string x.f7.f1, .int .i64 x.f7.f2, .slice A10 x.f7.f3.length c10, .slice A11 x.f7.f4.length c11, .int .i64 x.f8.f0, .string x.f8.f1, .int .i64 x.f8.f2, .slice A15 x.f8.f3.length c15, .slice A16 x.f8.f4.length c16] 46)
  rw [hW1] at hbA hb0
  have HW1 := Lib.hid hW1
  have HBA := Lib.hid hbA
  have Q1 : Hid (W1.heap[w.heap.size]? = some (.cells (obC x (.slice A6 x.f6.length c6) (.slice A10 x.f7.f3.length c10) (.slice A11 x.f7.f4.length c11) (.slice A15 x.f8.f3.length c15) (.slice A16 x.f8.f4.length c16)) 46 (0, 0))) := Lib.hid hb0
  have N1 := Lib.hid (Below.refl W1.heap.size W1)
  have G6 := Lib.hid (Kd.C_below g6 hbA)
  have G10 := Lib.hid (Kd.C_below g10 hbA)
  have G11 := Lib.hid (Kd.C_below g11 hbA)
  have G15 := Lib.hid (Kd.C_below g15 hbA)
  have G16 := Lib.hid (Kd.C_below g16 hbA)
  have H1 := Lib.hid hs1
  have H6 := Lib.hid hs6
  have H7 := Lib.hid hs7
  have H8 := Lib.hid hs8
  clear hk g6 g10 g11 g15 g16 hW1 hbA hb0 hs1 hs6 hs7 hs8
  go_enter Try.func73, Try.ntmps73
  go_wp2_with fail
  rw [HW1.out]
  refine (impl_isKind.calls x.f0 _ W1 (isKind_f _)).mono ?_
  rintro e w2 ⟨rfl, hd⟩
  have N2 := Lib.hid (below_step N1.out hd.below)
  have Q2 := Lib.hid ((hd.below.block _ (blk_lt Q1.out)).trans Q1.out)
  clear hd Q1
  clear HW1
  cases hb0 : inB x.f0 1 3
  case false =>
    have hz : objB x rev next gone = false := by simp [objB, objB0, hb0]
    have HZ := Lib.hid hz
    clear hb0 hz
    go_wp2
    go_ret
    exact ⟨by rw [HZ.out]; first | done | rfl, below_step HBA.out N2.out⟩
  obtain ⟨a0, a1, a2, a3, a4, a5, a6⟩ := ob_c05 Q2.out
  obtain ⟨s7, s8, s9, s10, s11⟩ := ob_c7 Q2.out
  obtain ⟨t7, t8, t9, t10, t11⟩ := ob_c8 Q2.out
  go_wp2_with fail
  clear a0 a1 a2 a3 a4 a5 a6 s7 s8 s9 s10 s11 t7 t8 t9 t10 t11
  obtain ⟨K1, e1⟩ := implNameOk_ev x.f1 H1.out
  refine (impl_NameOk.calls K1 x.f1 _ w2 (e1 K1 (Nat.le_refl _))).mono ?_
  rintro e w3 ⟨rfl, hd⟩
  have N3 := Lib.hid (below_step N2.out hd.below)
  have Q3 := Lib.hid ((hd.below.block _ (blk_lt Q2.out)).trans Q2.out)
  clear hd Q2
  cases hb1 : nameB x.f1
  case false =>
    have hz : objB x rev next gone = false := by simp [objB, objB0, hb0, hb1]
    have HZ := Lib.hid hz
    clear hb0 hb1 hz
    go_wp2
    go_ret
    exact ⟨by rw [HZ.out]; first | done | rfl, below_step HBA.out N3.out⟩
  obtain ⟨a0, a1, a2, a3, a4, a5, a6⟩ := ob_c05 Q3.out
  obtain ⟨s7, s8, s9, s10, s11⟩ := ob_c7 Q3.out
  obtain ⟨t7, t8, t9, t10, t11⟩ := ob_c8 Q3.out
  go_wp2_with fail
  clear a0 a1 a2 a3 a4 a5 a6 s7 s8 s9 s10 s11 t7 t8 t9 t10 t11
  refine (impl_within.calls x.f2 1 (next - 1) _ w3 (within_f _ _ _)).mono ?_
  rintro e w4 ⟨rfl, hd⟩
  have N4 := Lib.hid (below_step N3.out hd.below)
  have Q4 := Lib.hid ((hd.below.block _ (blk_lt Q3.out)).trans Q3.out)
  clear hd Q3
  cases hb2 : inB x.f2 1 (next - 1)
  case false =>
    have hz : objB x rev next gone = false := by simp [objB, objB0, hb0, hb1, hb2]
    have HZ := Lib.hid hz
    clear hb0 hb1 hb2 hz
    go_wp2
    go_ret
    exact ⟨by rw [HZ.out]; first | done | rfl, below_step HBA.out N4.out⟩
  obtain ⟨a0, a1, a2, a3, a4, a5, a6⟩ := ob_c05 Q4.out
  obtain ⟨s7, s8, s9, s10, s11⟩ := ob_c7 Q4.out
  obtain ⟨t7, t8, t9, t10, t11⟩ := ob_c8 Q4.out
  go_wp2_with fail
  clear a0 a1 a2 a3 a4 a5 a6 s7 s8 s9 s10 s11 t7 t8 t9 t10 t11
  refine (impl_within.calls x.f3 1 rev _ w4 (within_f _ _ _)).mono ?_
  rintro e w5 ⟨rfl, hd⟩
  have N5 := Lib.hid (below_step N4.out hd.below)
  have Q5 := Lib.hid ((hd.below.block _ (blk_lt Q4.out)).trans Q4.out)
  clear hd Q4
  cases hb3 : inB x.f3 1 rev
  case false =>
    have hz : objB x rev next gone = false := by simp [objB, objB0, hb0, hb1, hb2, hb3]
    have HZ := Lib.hid hz
    clear hb0 hb1 hb2 hb3 hz
    go_wp2
    go_ret
    exact ⟨by rw [HZ.out]; first | done | rfl, below_step HBA.out N5.out⟩
  obtain ⟨a0, a1, a2, a3, a4, a5, a6⟩ := ob_c05 Q5.out
  obtain ⟨s7, s8, s9, s10, s11⟩ := ob_c7 Q5.out
  obtain ⟨t7, t8, t9, t10, t11⟩ := ob_c8 Q5.out
  go_wp2_with fail
  clear a0 a1 a2 a3 a4 a5 a6 s7 s8 s9 s10 s11 t7 t8 t9 t10 t11
  refine (impl_within.calls x.f4 1 x.f3 _ w5 (within_f _ _ _)).mono ?_
  rintro e w6 ⟨rfl, hd⟩
  have N6 := Lib.hid (below_step N5.out hd.below)
  have Q6 := Lib.hid ((hd.below.block _ (blk_lt Q5.out)).trans Q5.out)
  clear hd Q5
  cases hb4 : inB x.f4 1 x.f3
  case false =>
    have hz : objB x rev next gone = false := by simp [objB, objB0, hb0, hb1, hb2, hb3, hb4]
    have HZ := Lib.hid hz
    clear hb0 hb1 hb2 hb3 hb4 hz
    go_wp2
    go_ret
    exact ⟨by rw [HZ.out]; first | done | rfl, below_step HBA.out N6.out⟩
  obtain ⟨a0, a1, a2, a3, a4, a5, a6⟩ := ob_c05 Q6.out
  obtain ⟨s7, s8, s9, s10, s11⟩ := ob_c7 Q6.out
  obtain ⟨t7, t8, t9, t10, t11⟩ := ob_c8 Q6.out
  go_wp2_with fail
  clear a0 a1 a2 a3 a4 a5 a6 s7 s8 s9 s10 s11 t7 t8 t9 t10 t11
  obtain ⟨K6, e6⟩ := namesOk_ev x.f6 4 H6.out
  refine (impl_namesOk.calls K6 A6 c6 x.f6 4 (waitsB x.f6) w6 (Kd.C_below G6.out N6.out) l6 (e6 K6 (Nat.le_refl _))).mono ?_
  rintro e w7 ⟨rfl, hd⟩
  have N7 := Lib.hid (below_step N6.out hd.below)
  have Q7 := Lib.hid ((hd.below.block _ (blk_lt Q6.out)).trans Q6.out)
  clear hd Q6
  cases hb5 : waitsB x.f6
  case false =>
    have hz : objB x rev next gone = false := by simp [objB, objB0, hb0, hb1, hb2, hb3, hb4, hb5]
    have HZ := Lib.hid hz
    clear hb0 hb1 hb2 hb3 hb4 hb5 hz
    go_wp2
    go_ret
    exact ⟨by rw [HZ.out]; first | done | rfl, below_step HBA.out N7.out⟩
  cases he : endB x gone
  case false =>
    have hz : objB x rev next gone = false := by simp [objB, objB0, hb0, hb1, hb2, hb3, hb4, hb5, he]
    have HZ := Lib.hid hz
    clear hb0 hb1 hb2 hb3 hb4 hb5 hz
    unfold endB at he
    simp only [Bool.or_eq_false_iff, decide_eq_false_iff_not, Bool.not_eq_false'] at he
    obtain ⟨rfl, h5, h6⟩ := he
    obtain ⟨a0, a1, a2, a3, a4, a5, a6⟩ := ob_c05 Q7.out
    rw [h5] at a5
    clear h5
    go_wp2
    go_ret
    exact ⟨by rw [HZ.out]; first | done | rfl, below_step HBA.out N7.out⟩
  have hz : objB x rev next gone = (valB x.f7 && valB x.f8) := by simp [objB, objB0, hb0, hb1, hb2, hb3, hb4, hb5, he]
  have HZ := Lib.hid hz
  clear hb0 hb1 hb2 hb3 hb4 hb5 hz
  obtain ⟨b, hbb⟩ : ∃ b, b = gone := ⟨_, rfl⟩
  cases gone
  case true =>
    clear he hbb
    obtain ⟨a0, a1, a2, a3, a4, a5, a6⟩ := ob_c05 Q7.out
    obtain ⟨s7, s8, s9, s10, s11⟩ := ob_c7 Q7.out
    go_wp2_with fail
    clear a0 a1 a2 a3 a4 a5 a6 s7 s8 s9 s10 s11
    obtain ⟨K7, e7⟩ := implValueOk_ev x.f7 H7.out
    refine (impl_ValueOk.calls K7 x.f7.f0 x.f7.f1 x.f7.f2 A10 c10 x.f7.f3 A11 c11 x.f7.f4 _ w7 (Kd.C_below G10.out N7.out) l10 (Kd.C_below G11.out N7.out) l11 (e7 K7 (Nat.le_refl _))).mono ?_
    rintro e w8 ⟨rfl, hd⟩
    have N8 := Lib.hid (below_step N7.out hd)
    have Q8 := Lib.hid ((hd.block _ (blk_lt Q7.out)).trans Q7.out)
    clear hd e7
    cases hb7 : valB x.f7
    case false =>
      have HZ2 := Lib.hid hb7
      clear hb7
      go_wp2
      go_ret
      exact ⟨by rw [HZ.out, HZ2.out]; first | done | rfl, below_step HBA.out N8.out⟩
    have HZ2 := Lib.hid hb7
    clear hb7
    obtain ⟨t7, t8, t9, t10, t11⟩ := ob_c8 Q8.out
    go_wp2_with fail
    clear t7 t8 t9 t10 t11
    obtain ⟨K8, e8⟩ := implValueOk_ev x.f8 H8.out
    refine (impl_ValueOk.calls K8 x.f8.f0 x.f8.f1 x.f8.f2 A15 c15 x.f8.f3 A16 c16 x.f8.f4 _ w8 (Kd.C_below G15.out N8.out) l15 (Kd.C_below G16.out N8.out) l16 (e8 K8 (Nat.le_refl _))).mono ?_
    rintro e w9 ⟨rfl, hd⟩
    have N9 := Lib.hid (below_step N8.out hd)
    clear hd e8
    go_wp2
    go_ret
    exact ⟨by rw [HZ.out, HZ2.out]; first | done | rfl, below_step HBA.out N9.out⟩
  cases h5 : x.f5
  case false =>
    have H5 := Lib.hid h5
    clear he hbb h5
    obtain ⟨a0, a1, a2, a3, a4, a5, a6⟩ := ob_c05 Q7.out
    obtain ⟨s7, s8, s9, s10, s11⟩ := ob_c7 Q7.out
    rw [H5.out] at a5
    go_wp2_with fail
    clear a0 a1 a2 a3 a4 a5 a6 s7 s8 s9 s10 s11
    obtain ⟨K7, e7⟩ := implValueOk_ev x.f7 H7.out
    refine (impl_ValueOk.calls K7 x.f7.f0 x.f7.f1 x.f7.f2 A10 c10 x.f7.f3 A11 c11 x.f7.f4 _ w7 (Kd.C_below G10.out N7.out) l10 (Kd.C_below G11.out N7.out) l11 (e7 K7 (Nat.le_refl _))).mono ?_
    rintro e w8 ⟨rfl, hd⟩
    have N8 := Lib.hid (below_step N7.out hd)
    have Q8 := Lib.hid ((hd.block _ (blk_lt Q7.out)).trans Q7.out)
    clear hd e7
    cases hb7 : valB x.f7
    case false =>
      have HZ2 := Lib.hid hb7
      clear hb7
      go_wp2
      go_ret
      exact ⟨by rw [HZ.out, HZ2.out]; first | done | rfl, below_step HBA.out N8.out⟩
    have HZ2 := Lib.hid hb7
    clear hb7
    obtain ⟨t7, t8, t9, t10, t11⟩ := ob_c8 Q8.out
    go_wp2_with fail
    clear t7 t8 t9 t10 t11
    obtain ⟨K8, e8⟩ := implValueOk_ev x.f8 H8.out
    refine (impl_ValueOk.calls K8 x.f8.f0 x.f8.f1 x.f8.f2 A15 c15 x.f8.f3 A16 c16 x.f8.f4 _ w8 (Kd.C_below G15.out N8.out) l15 (Kd.C_below G16.out N8.out) l16 (e8 K8 (Nat.le_refl _))).mono ?_
    rintro e w9 ⟨rfl, hd⟩
    have N9 := Lib.hid (below_step N8.out hd)
    clear hd e8
    go_wp2
    go_ret
    exact ⟨by rw [HZ.out, HZ2.out]; first | done | rfl, below_step HBA.out N9.out⟩
  have h6 : 0 < x.f6.length := by simpa [endB, h5] using he
  have H5 := Lib.hid h5
  clear he hbb h5
  obtain ⟨a0, a1, a2, a3, a4, a5, a6⟩ := ob_c05 Q7.out
  obtain ⟨s7, s8, s9, s10, s11⟩ := ob_c7 Q7.out
  rw [H5.out] at a5
  go_wp2_with fail
  clear a0 a1 a2 a3 a4 a5 a6 s7 s8 s9 s10 s11
  obtain ⟨K7, e7⟩ := implValueOk_ev x.f7 H7.out
  refine (impl_ValueOk.calls K7 x.f7.f0 x.f7.f1 x.f7.f2 A10 c10 x.f7.f3 A11 c11 x.f7.f4 _ w7 (Kd.C_below G10.out N7.out) l10 (Kd.C_below G11.out N7.out) l11 (e7 K7 (Nat.le_refl _))).mono ?_
  rintro e w8 ⟨rfl, hd⟩
  have N8 := Lib.hid (below_step N7.out hd)
  have Q8 := Lib.hid ((hd.block _ (blk_lt Q7.out)).trans Q7.out)
  clear hd e7
  cases hb7 : valB x.f7
  case false =>
    have HZ2 := Lib.hid hb7
    clear hb7
    go_wp2
    go_ret
    exact ⟨by rw [HZ.out, HZ2.out]; first | done | rfl, below_step HBA.out N8.out⟩
  have HZ2 := Lib.hid hb7
  clear hb7
  obtain ⟨t7, t8, t9, t10, t11⟩ := ob_c8 Q8.out
  go_wp2_with fail
  clear t7 t8 t9 t10 t11
  obtain ⟨K8, e8⟩ := implValueOk_ev x.f8 H8.out
  refine (impl_ValueOk.calls K8 x.f8.f0 x.f8.f1 x.f8.f2 A15 c15 x.f8.f3 A16 c16 x.f8.f4 _ w8 (Kd.C_below G15.out N8.out) l15 (Kd.C_below G16.out N8.out) l16 (e8 K8 (Nat.le_refl _))).mono ?_
  rintro e w9 ⟨rfl, hd⟩
  have N9 := Lib.hid (below_step N8.out hd)
  clear hd e8
  go_wp2
  go_ret
  exact ⟨by rw [HZ.out, HZ2.out]; first | done | rfl, below_step HBA.out N9.out⟩
end Go.Proofs.Ytmoiacijklkfaaa.G

/- GKIns -/
/-
  Rows of several cells an element: copied, lengthened by zeros, a new element put in; a search by halves.
-/
namespace Go.Proofs.Ytmoiacijklkfaaa.G
open Go.RowKit Go.Proofs.YtmoiacijklkfaaaW.PrintWords Go.Proofs.YtmoiacijklkfaaaW.PrintLast Go.Proofs.YtmoiacijklkfaaaW.PrintMore
set_option linter.unusedVariables false
set_option linter.unusedSimpArgs false
/-! ### a search by halves, as a function -/
/-! ### elements in a row: cut, joined; a row written anew -/
theorem R_put {α : Type} {d : Kd α} {t base : Nat} {ok : Nat → Prop} {w w' : World} {g' C : Nat} {cur' : Array Value} {zs : List α} {inner : List Value} {own : Option Nat}
    (hr : Reps (d.M w base (fun k => ok k ∧ some k ≠ own)) d.sz zs inner) (hb : base ≤ g') (hh : w'.heap[g']? = some (.cells cur' t (0, 0))) (h1 : zs.length ≤ C) (h2 : C ≤ maxLen) (h3 : cur'.size = C * d.sz)
    (h4 : cur'.toList.take (zs.length * d.sz) = inner) (hok : ok g') (hg : own = some g' ∨ w.heap.size ≤ g') (hm : ∀ k, k < w.heap.size → some k ≠ own → w'.heap[k]? = w.heap[k]?) :
    d.R t w' base ok (.slice (some ⟨g', 0, none⟩) zs.length C) zs := by
  refine R_of_block hb hh h1 h2 h3 hok ?_
  rw [h4]
  refine hr.imp_ (fun q cq hq => ?_)
  have hb := d.M_bound hq
  refine d.M_mono (fun k hk => ⟨hk.1.1, ?_⟩) (d.M_move (fun k hk => hm k hk.2.2.1 hk.1.2) hb)
  rcases hg with hg | hg
  · intro e; exact hk.1.2 (by rw [hg, e])
  · have := hk.2.2.1; omega
end Go.Proofs.Ytmoiacijklkfaaa.G
