import Derived.Test.YtchhognpijobcaaMFnExactSizeOf5
import Derived.Test.YtchhognpijobcaaMFnExactSizeOf6
import Derived.Test.YtchhognpijobcaaMFnExactSizeOf7
import Derived.Test.YtchhognpijobcaaMFnExactSizeOf8
import Derived.Test.YtchhognpijobcaaMFnExactSizeOf1
/- PValueOk -/
/-
  Values that are right, and their size; the laws of ValueOk and SizeOf.
-/
namespace Go.Proofs.Ytchhognpijobcaa.G
open Go.RowKit Go.Proofs.YtchhognpijobcaaW.PrintWords Go.Proofs.YtchhognpijobcaaW.PrintLast Go.Proofs.YtchhognpijobcaaW.PrintMore
set_option linter.unusedVariables false
def emp (s : ByteArray) : Bool := decide (s.toList = [])
def textB (s : ByteArray) : Bool := allN s.size (fun i => inB (bt s i) 32 126) && decide ((s.size : Int) ≤ 100)
theorem wbt (s : ByteArray) (i : Int) : wrap64 (bt s i) = bt s i := w64 (by have := bt_lo s i; omega) (by have := bt_hi s i; omega)
theorem l4Text_ev (s : ByteArray) (h : s.size ≤ 9223372036854775807) : Ev (fun k => spec_l4Text.f k s) (textB s) := by
  unfold spec_l4Text.f textB
  refine loop_all (g := fun k i => spec_l4Text.l0 k s i) s.size _ _ ?_ ?_ ?_
  · intro i hi hok r hr
    refine Ev.step (fun k => by rw [spec_l4Text.l0]) ?_
    simp only [wsucc hi h, wbt, l1In_f, Option.bind_some]
    exact ev_if_pos (by omega) (ev_if_pos (by omega) (ev_if_pos hok hr))
  · intro i hi hok
    refine Ev.step (fun k => by rw [spec_l4Text.l0]) ?_
    simp only [wbt, l1In_f, Option.bind_some]
    exact ev_if_pos (by omega) (ev_if_pos (by omega) (ev_if_neg (by rw [hok]; exact Bool.false_ne_true) (Ev.now _)))
  · exact Ev.step (fun k => by rw [spec_l4Text.l0]) (ev_if_neg (by omega) (Ev.now _))
theorem l4Keys_ev (x : IVal) (h : wfStrs x.f3) : Ev (fun k => spec_l4Keys.f k x.f0 x.f1 x.f2 x.f3 x.f4) (namsB x.f3 && ((x.f3.length : Int) == (x.f4.length : Int))) := by
  unfold spec_l4Keys.f namsB
  refine loop_all (g := fun k i => spec_l4Keys.l0 k i x.f0 x.f1 x.f2 x.f3 x.f4) x.f3.length _ _ ?_ ?_ ?_
  · intro i hi hok r hr
    refine Ev.step (fun k => by rw [spec_l4Keys.l0]) ?_
    simp only [wsucc hi h.1]
    refine ev_if_pos (by omega) (ev_if_pos (by omega) (Ev.bind (specNameOk_ev _ (wfStrs_at h hi)) (ev_if_pos (namOk_name hok) (ev_if (fun c => ?_) (fun c => hr)))))
    simp only [wpred (by omega : 0 < i) hi h.1]
    exact ev_if_pos (by omega) (ev_if_pos (by omega) (ev_if_pos (namOk_less hok (by omega)) hr))
  · intro i hi hok
    refine Ev.step (fun k => by rw [spec_l4Keys.l0]) ?_
    refine ev_if_pos (by omega) (ev_if_pos (by omega) (Ev.bind (specNameOk_ev _ (wfStrs_at h hi)) (ev_if (fun c0 => ?_) (fun _ => Ev.now _))))
    obtain ⟨h0, hl⟩ := namOk_false hok c0
    simp only [wpred h0 hi h.1]
    exact ev_if_pos (by omega) (ev_if_pos (by omega) (ev_if_pos (by omega) (ev_if_neg (by rw [hl]; simp) (Ev.now _))))
  · exact Ev.step (fun k => by rw [spec_l4Keys.l0]) (ev_if_neg (by omega) (Ev.now _))
/-- A shape that is right, by kinds. -/
def shB (x : IVal) : Bool :=
  if x.f0 = 1 then textB x.f1 && (x.f2 == 0 && ((x.f3.length : Int) == 0 && (x.f4.length : Int) == 0))
  else if x.f0 = 2 then emp x.f1 && ((x.f3.length : Int) == 0 && (x.f4.length : Int) == 0)
  else if x.f0 = 3 then emp x.f1 && (inB x.f2 0 1 && ((x.f3.length : Int) == 0 && (x.f4.length : Int) == 0))
  else if x.f0 = 4 then emp x.f1 && (x.f2 == 0 && (x.f3.length : Int) == 0)
  else if x.f0 = 5 then emp x.f1 && (x.f2 == 0 && (namsB x.f3 && (x.f3.length : Int) == (x.f4.length : Int)))
  else false
theorem ev_bool {a b : Option Bool} {r : Bool} (h : a = b) (k : b = some r) : Ev (fun _ => a) r := ev_now (h.trans k)
theorem implShapeOk_ev (x : IVal) (h1 : x.f1.size ≤ 9223372036854775807) (h3 : wfStrs x.f3) :
    Ev (fun k => impl_shapeOk.f k x.f0 x.f1 x.f2 x.f3 x.f4) (shB x && decide (x.f0 ≠ 5 ∨ (x.f3.length : Int) ≤ 300)) := by
  unfold impl_shapeOk.f shB
  by_cases c1 : x.f0 = 1
  · rw [if_pos c1, decide_eq_true (by omega : x.f0 ≠ 5 ∨ (x.f3.length : Int) ≤ 300), Bool.and_true, textB, Bool.and_assoc]
    refine ev_if_pos c1 ?_
    refine loop_all (g := fun k i => impl_shapeOk.l0 k (x.f2 == 0) ((x.f3.length : Int) == 0) ((x.f4.length : Int) == 0) x.f1.size i x.f0 x.f1 x.f2 x.f3 x.f4) x.f1.size _ _ ?_ ?_ ?_
    · intro i hi hok r hr
      refine Ev.step (fun k => by rw [impl_shapeOk.l0]) ?_
      simp only [wsucc hi h1, wbt, within_f, Option.bind_some]
      exact ev_if_pos (by omega) (ev_if_pos (by omega) (ev_if_pos (by omega) (ev_if_pos hok hr)))
    · intro i hi hok
      refine Ev.step (fun k => by rw [impl_shapeOk.l0]) ?_
      simp only [wbt, within_f, Option.bind_some]
      exact ev_if_pos (by omega) (ev_if_pos (by omega) (ev_if_pos (by omega) (ev_if_neg (by rw [hok]; exact Bool.false_ne_true) (Ev.now _))))
    · refine Ev.step (fun k => by rw [impl_shapeOk.l0]) (ev_if_neg (by omega) (ev_now ?_))
      generalize (x.f3.length : Int) = n3
      generalize (x.f4.length : Int) = n4
      cases (x.f2 == 0) <;> cases (n3 == 0) <;> by_cases c : (x.f1.size : Int) ≤ 100 <;> simp [c]
  · by_cases c2 : x.f0 = 2
    · rw [if_neg c1, if_pos c2, decide_eq_true (by omega : x.f0 ≠ 5 ∨ (x.f3.length : Int) ≤ 300), Bool.and_true]
      refine ev_if_neg c1 (ev_if_pos c2 (ev_now ?_))
      unfold emp
      generalize (x.f3.length : Int) = n3
      generalize (x.f4.length : Int) = n4
      by_cases d1 : x.f1.toList = [] <;> by_cases d2 : n3 = 0 <;> simp [d1, d2]
    · by_cases c3 : x.f0 = 3
      · rw [if_neg c1, if_neg c2, if_pos c3, decide_eq_true (by omega : x.f0 ≠ 5 ∨ (x.f3.length : Int) ≤ 300), Bool.and_true]
        simp only [within_f, Option.bind_some]
        refine ev_if_neg c1 (ev_if_neg c2 (ev_if_pos c3 (ev_now ?_)))
        unfold emp
        generalize (x.f3.length : Int) = n3
        generalize (x.f4.length : Int) = n4
        by_cases d1 : x.f1.toList = [] <;> by_cases d2 : n3 = 0 <;> cases inB x.f2 0 1 <;> simp [d1, d2]
      · by_cases c4 : x.f0 = 4
        · rw [if_neg c1, if_neg c2, if_neg c3, if_pos c4, decide_eq_true (by omega : x.f0 ≠ 5 ∨ (x.f3.length : Int) ≤ 300), Bool.and_true]
          refine ev_if_neg c1 (ev_if_neg c2 (ev_if_neg c3 (ev_if_pos c4 (ev_now ?_))))
          unfold emp
          generalize (x.f3.length : Int) = n3
          generalize (x.f4.length : Int) = n4
          by_cases d1 : x.f1.toList = [] <;> by_cases d2 : n3 = 0 <;> by_cases d3 : x.f2 = 0 <;> simp [d1, d2, d3]
        · by_cases c5 : x.f0 = 5
          · rw [if_neg c1, if_neg c2, if_neg c3, if_neg c4, if_pos c5]
            refine ev_if_neg c1 (ev_if_neg c2 (ev_if_neg c3 (ev_if_neg c4 (ev_if_pos c5 (Ev.bind (namesOk_ev x.f3 300 h3) (ev_now ?_))))))
            have e : decide (x.f0 ≠ 5 ∨ (x.f3.length : Int) ≤ 300) = decide ((x.f3.length : Int) ≤ 300) := by rw [decide_eq_decide]; omega
            rw [e]
            clear e
            unfold emp
            generalize (x.f3.length : Int) = n3
            generalize (x.f4.length : Int) = n4
            by_cases d1 : x.f1.toList = [] <;> by_cases d2 : n3 = n4 <;> by_cases d3 : x.f2 = 0 <;> cases namsB x.f3 <;> by_cases d4 : n3 ≤ 300 <;> (try subst d2) <;> simp [*]
          · rw [if_neg c1, if_neg c2, if_neg c3, if_neg c4, if_neg c5, Bool.false_and]
            exact ev_if_neg c1 (ev_if_neg c2 (ev_if_neg c3 (ev_if_neg c4 (ev_if_neg c5 (Ev.now _)))))
/-- Sizes of kids, added up; 0 where one is not right, or it is too much. -/
def sumL (m : IVal → Nat) : Nat → List IVal → Nat
  | n, [] => n
  | n, y :: ys => if m y = 0 ∨ n + m y > 300 then 0 else sumL m (n + m y) ys
theorem sumL_bad {m : IVal → Nat} {n : Nat} {y : IVal} {ys : List IVal} (h : m y = 0 ∨ n + m y > 300) : sumL m n (y :: ys) = 0 := by rw [sumL, if_pos h]
theorem sumL_good {m : IVal → Nat} {n : Nat} {y : IVal} {ys : List IVal} (h : ¬ (m y = 0 ∨ n + m y > 300)) : sumL m n (y :: ys) = sumL m (n + m y) ys := by rw [sumL, if_neg h]
def lookN : Nat → IVal → Nat
  | 0, _ => 0
  | r + 1, x => if shB x = true then sumL (lookN r) 1 x.f4 else 0
theorem sumL_bounds (m : IVal → Nat) : ∀ (ys : List IVal) (n : Nat), n ≤ 300 → sumL m n ys = 0 ∨ (n + ys.length ≤ sumL m n ys ∧ sumL m n ys ≤ 300)
  | [], n, h => .inr ⟨by simp [sumL], by simpa [sumL] using h⟩
  | y :: ys, n, h => by
    rw [sumL]
    by_cases c : m y = 0 ∨ n + m y > 300
    · rw [if_pos c]; exact .inl rfl
    · rw [if_neg c]
      rcases sumL_bounds m ys (n + m y) (by omega) with h1 | ⟨h1, h2⟩
      · exact .inl h1
      · refine .inr ⟨?_, h2⟩
        rw [List.length_cons]; omega
theorem lookN_le (r : Nat) (x : IVal) : lookN r x ≤ 300 := by
  cases r with
  | zero => simp [lookN]
  | succ r =>
    rw [lookN]
    split
    · rcases sumL_bounds (lookN r) x.f4 1 (by omega) with h | h <;> omega
    · omega
theorem l4Look_j1 (x : IVal) (n : Nat) (h1 : x.f1.size ≤ 9223372036854775807) (h3 : wfStrs x.f3) (b : Bool) (hb : b = ((x.f3.length : Int) == 0 && (x.f4.length : Int) == 0)) :
    Ev (fun k => spec_l4Look.j1 k n b x.f0 x.f1 x.f2 x.f3 x.f4) (if shB x = true then (n : Int) else 0) := by
  subst hb
  refine Ev.step (fun k => by rw [spec_l4Look.j1]) ?_
  unfold shB
  by_cases c1 : x.f0 = 1
  · refine ev_if_pos c1 ?_
    rw [if_pos c1]
    cases hb : ((x.f3.length : Int) == 0 && (x.f4.length : Int) == 0) with
    | false => exact ev_if_neg Bool.false_ne_true (ev_some (by simp))
    | true =>
      refine ev_if_pos rfl ?_
      by_cases c : x.f2 = 0
      · refine ev_if_pos c (Ev.bind (l4Text_ev _ h1) (ev_now ?_))
        rw [c]; cases textB x.f1 <;> simp
      · refine ev_if_neg c (ev_some ?_)
        simp [c]
  · by_cases c2 : x.f0 = 2
    · refine ev_if_neg c1 (ev_if_pos c2 (ev_now ?_))
      rw [if_neg c1, if_pos c2]
      unfold emp
      generalize (x.f3.length : Int) = n3
      generalize (x.f4.length : Int) = n4
      cases (n3 == 0 && n4 == 0) <;> by_cases d : x.f1.toList = [] <;> simp [d]
    · by_cases c3 : x.f0 = 3
      · refine ev_if_neg c1 (ev_if_neg c2 (ev_if_pos c3 (ev_now ?_)))
        simp only [l1In_f, Option.bind_some]
        rw [if_neg c1, if_neg c2, if_pos c3]
        unfold emp
        generalize (x.f3.length : Int) = n3
        generalize (x.f4.length : Int) = n4
        cases (n3 == 0 && n4 == 0) <;> by_cases d : x.f1.toList = [] <;> cases inB x.f2 0 1 <;> simp [d]
      · by_cases c4 : x.f0 = 4
        · refine ev_if_neg c1 (ev_if_neg c2 (ev_if_neg c3 (ev_if_pos c4 (ev_now ?_))))
          rw [if_neg c1, if_neg c2, if_neg c3, if_pos c4]
          unfold emp
          generalize (x.f3.length : Int) = n3
          generalize (x.f4.length : Int) = n4
          by_cases d : x.f1.toList = [] <;> by_cases d2 : n3 = 0 <;> by_cases d3 : x.f2 = 0 <;> simp [d, d2, d3]
        · by_cases c5 : x.f0 = 5
          · refine ev_if_neg c1 (ev_if_neg c2 (ev_if_neg c3 (ev_if_neg c4 (ev_if_pos c5 (Ev.bind (l4Keys_ev x h3) (ev_now ?_))))))
            rw [if_neg c1, if_neg c2, if_neg c3, if_neg c4, if_pos c5]
            unfold emp
            generalize (x.f3.length : Int) = n3
            generalize (x.f4.length : Int) = n4
            cases (namsB x.f3 && (n3 == n4)) <;> by_cases d : x.f1.toList = [] <;> by_cases d3 : x.f2 = 0 <;> simp [d, d3]
          · refine ev_if_neg c1 (ev_if_neg c2 (ev_if_neg c3 (ev_if_neg c4 (ev_if_neg c5 (ev_some ?_)))))
            rw [if_neg c1, if_neg c2, if_neg c3, if_neg c4, if_neg c5]; simp
theorem smI_parts {n : Nat} {x : IVal} (h : SmI n x) : ∃ m, n = m + 1 ∧ x.f1.size ≤ 1048576 ∧ wfStrs x.f3 ∧ x.f4.length ≤ 1048576 ∧ ∀ y ∈ x.f4, SmI m y := by
  cases n with
  | zero => rw [SmI] at h; exact h.elim
  | succ m => rw [SmI] at h; exact ⟨m, rfl, h.2.1, wfStrs_of h.2.2.1, h.2.2.2.1, h.2.2.2.2⟩
theorem l4Look_ev : ∀ (r : Nat) (n : Nat) (x : IVal), r ≤ 1000 → SmI n x → Ev (fun k => spec_l4Look.f k x.f0 x.f1 x.f2 x.f3 x.f4 r) ((lookN r x : Nat) : Int)
  | 0, n, x, _, h => Ev.step (fun k => by rw [spec_l4Look.f]) (ev_if_pos (by omega) (ev_some (by simp [lookN])))
  | r + 1, n, x, hr, h => by
    obtain ⟨m, rfl, h1, h3, hl, hk⟩ := smI_parts h
    have hx := h
    have loop : ∀ (d i a : Nat), i + d = x.f4.length → 1 ≤ a → a ≤ 300 → Ev (fun k => spec_l4Look.l0 k ((r + 1 : Nat) : Int) a i x.f0 x.f1 x.f2 x.f3 x.f4) (if shB x = true then ((sumL (lookN r) a (x.f4.drop i) : Nat) : Int) else 0) := by
      intro d
      induction d with
      | zero =>
        intro i a hi ha ha2
        rw [List.drop_of_length_le (by omega), sumL]
        refine Ev.step (fun k => by rw [spec_l4Look.l0]) (ev_if_neg (by omega) ?_)
        exact ev_if (fun c => l4Look_j1 x a (by omega) h3 _ (by rw [beq_iff_eq.2 c, Bool.true_and])) (fun c => l4Look_j1 x a (by omega) h3 _ (by rw [beq_eq_false_iff_ne.2 c, Bool.false_and]))
      | succ d ih =>
        intro i a hid ha ha2
        have hi : i < x.f4.length := by omega
        have hle := lookN_le r x.f4[i]
        refine Ev.step (fun k => by rw [spec_l4Look.l0]) (ev_if_pos (by omega) (ev_if_pos (by omega) ?_))
        have hw : wrap64 (((r + 1 : Nat) : Int) - 1) = (r : Int) := by rw [w64 (by omega) (by omega)]; omega
        simp only [rdIV hi, hw, wsucc hi (by omega : x.f4.length ≤ 9223372036854775807)]
        refine Ev.bind (l4Look_ev r m x.f4[i] (by omega) (hk _ (List.getElem_mem hi))) ?_
        have hw2 : wrap64 ((a : Int) + (lookN r x.f4[i] : Nat)) = ((a + lookN r x.f4[i] : Nat) : Int) := by rw [w64 (by omega) (by omega)]; omega
        rw [hw2, List.drop_eq_getElem_cons hi]
        by_cases c : lookN r x.f4[i] = 0
        · rw [sumL_bad (.inl c)]
          exact ev_if_pos (by omega) (ev_some (by simp))
        · refine ev_if_neg (by omega) ?_
          by_cases c2 : a + lookN r x.f4[i] > 300
          · rw [sumL_bad (.inr c2)]
            exact ev_if_pos (by omega) (ev_some (by simp))
          · rw [sumL_good (by omega)]
            exact ev_if_neg (by omega) (ih (i + 1) (a + lookN r x.f4[i]) (by omega) (by omega) (by omega))
    refine Ev.step (fun k => by rw [spec_l4Look.f]) (ev_if_neg (by omega) ?_)
    refine ev_rw (loop x.f4.length 0 1 (by omega) (by omega) (by omega)) ?_
    rw [List.drop_zero, lookN]
    by_cases c : shB x = true <;> simp [c]
def bigN (n : Nat) : Int := if n = 0 then 301 else n
theorem measured_ev : ∀ (r : Nat) (n : Nat) (x : IVal), r ≤ 1000 → SmI n x → Ev (fun k => impl_measured.f k x.f0 x.f1 x.f2 x.f3 x.f4 r) (bigN (lookN r x))
  | 0, n, x, _, h => Ev.step (fun k => by rw [impl_measured.f]) (ev_if_pos (by omega) (Ev.step (fun k => by rw [impl_measured.j0]) (ev_if_pos rfl (ev_some (by simp [lookN, bigN])))))
  | r + 1, n, x, hr, h => by
    obtain ⟨m, rfl, h1, h3, hl, hk⟩ := smI_parts h
    have loop : ∀ (d i a : Nat), i + d = x.f4.length → 1 ≤ a → a ≤ 300 → Ev (fun k => impl_measured.l0 k ((r + 1 : Nat) : Int) a x.f4 x.f4.length i) (bigN (sumL (lookN r) a (x.f4.drop i))) := by
      intro d
      induction d with
      | zero =>
        intro i a hi ha ha2
        rw [List.drop_of_length_le (by omega), sumL]
        exact Ev.step (fun k => by rw [impl_measured.l0]) (ev_if_neg (by omega) (ev_some (by unfold bigN; rw [if_neg (by omega)])))
      | succ d ih =>
        intro i a hid ha ha2
        have hi : i < x.f4.length := by omega
        have hle := lookN_le r x.f4[i]
        refine Ev.step (fun k => by rw [impl_measured.l0]) (ev_if_pos (by omega) (ev_if_pos (by omega) (ev_if_pos (by omega) ?_)))
        have hw : wrap64 (((r + 1 : Nat) : Int) - 1) = (r : Int) := by rw [w64 (by omega) (by omega)]; omega
        simp only [rdIV hi, hw, wsucc hi (by omega : x.f4.length ≤ 9223372036854775807)]
        refine Ev.bind (measured_ev r m x.f4[i] (by omega) (hk _ (List.getElem_mem hi))) ?_
        rw [List.drop_eq_getElem_cons hi]
        by_cases c : lookN r x.f4[i] = 0
        · rw [sumL_bad (.inl c), show bigN (lookN r x.f4[i]) = 301 from if_pos c, w64 (by omega) (by omega)]
          exact ev_if_pos (by omega) (Ev.now _)
        · have hw2 : wrap64 ((a : Int) + bigN (lookN r x.f4[i])) = ((a + lookN r x.f4[i] : Nat) : Int) := by unfold bigN; rw [if_neg c, w64 (by omega) (by omega)]; omega
          rw [hw2]
          by_cases c2 : a + lookN r x.f4[i] > 300
          · rw [sumL_bad (.inr c2)]
            exact ev_if_pos (by omega) (Ev.now _)
          · rw [sumL_good (by omega)]
            exact ev_if_neg (by omega) (ih (i + 1) (a + lookN r x.f4[i]) (by omega) (by omega) (by omega))
    refine Ev.step (fun k => by rw [impl_measured.f]) (ev_if_neg (by omega) (Ev.bind (implShapeOk_ev x (by omega) h3) ?_))
    refine Ev.step (fun k => by rw [impl_measured.j0]) ?_
    rw [lookN]
    by_cases c : shB x = true
    · rw [if_pos c, c, Bool.true_and]
      by_cases c2 : x.f0 ≠ 5 ∨ (x.f3.length : Int) ≤ 300
      · rw [decide_eq_true c2]
        refine ev_if_neg (by simp) (ev_rw (loop x.f4.length 0 1 (by omega) (by omega) (by omega)) ?_)
        rw [List.drop_zero]
      · rw [decide_eq_false c2]
        refine ev_if_pos rfl (ev_some ?_)
        have e5 : x.f0 = 5 := by omega
        have hlen : x.f3.length = x.f4.length := by
          unfold shB at c
          rw [if_neg (by omega), if_neg (by omega), if_neg (by omega), if_neg (by omega), if_pos e5] at c
          simp only [Bool.and_eq_true, beq_iff_eq] at c
          omega
        rcases sumL_bounds (lookN r) x.f4 1 (by omega) with h0 | h0
        · rw [h0]; rfl
        · omega
    · rw [if_neg c, Bool.eq_false_iff.2 c, Bool.false_and]
      exact ev_if_pos rfl (Ev.now _)
end Go.Proofs.Ytchhognpijobcaa.G

/- G18 -/
-- Laid by wip/g/gprint.py out of the translation, by the kit's print program. Lean checks it.
namespace Go.Proofs.Ytchhognpijobcaa.G
open Go.RowKit Go.Proofs.YtchhognpijobcaaW.PrintWords Go.Proofs.YtchhognpijobcaaW.PrintLast Go.Proofs.YtchhognpijobcaaW.PrintMore
attribute [local go_sem] max2_int min2_int max_two min_two max_three min_three max_four min_four   -- for this text's walks alone
set_option linter.unusedVariables false
set_option linter.unusedSimpArgs false

/-! ### impl_ValueOk: function 18 -/
def impl_ValueOk.f (k : Nat) (a0_0 : Int) (a0_1 : ByteArray) (a0_2 : Int) (l0_3 : List ByteArray) (l0_4 : List (S30)) : Option (Bool) := (impl_measured.f k a0_0 a0_1 a0_2 l0_3 l0_4 6).bind fun t230 => (some (decide (t230 ≤ 300)))
theorem impl_ValueOk.mono : ∀ a0 a1 a2 a3 a4 k, LeO (impl_ValueOk.f k a0 a1 a2 a3 a4) (impl_ValueOk.f (k + 1) a0 a1 a2 a3 a4) := by
  intro a0 a1 a2 a3 a4 k
  unfold impl_ValueOk.f
  repeat' first
      | (with_reducible exact impl_measured.mono _ _ _ _ _ _ _)
      | (with_reducible exact LeO.refl _)
      | (with_reducible exact LeO.none _)
      | (with_reducible refine LeO.ite ?_ ?_)
      | (with_reducible refine LeO.bind ?_ (fun _ => ?_))
      | exact impl_measured.mono _ _ _ _ _ _ _
      | exact LeO.none _
      | refine LeO.ite ?_ ?_
      | refine LeO.bind ?_ (fun _ => ?_)
set_option maxHeartbeats 8000000 in
set_option maxRecDepth 100000 in
theorem impl_ValueOk.calls (k : Nat) (a0_0 : Int) (a0_1 : ByteArray) (a0_2 : Int) (A0_3 : Option Addr) (c0_3 : Nat) (l0_3 : List ByteArray) (A0_4 : Option Addr) (c0_4 : Nat) (l0_4 : List (S30)) (r : Bool) (w : World) (hr0_3 : Kd.C Kd.string w A0_3 l0_3.length l0_3) (hc0_3 : l0_3.length ≤ c0_3) (hr0_4 : Kd.C k30 w A0_4 l0_4.length l0_4) (hc0_4 : l0_4.length ≤ c0_4) (h : impl_ValueOk.f k a0_0 a0_1 a0_2 l0_3 l0_4 = some r) :
    Calls Try.prog 18 #[.agg #[.int .i64 a0_0, .string a0_1, .int .i64 a0_2, .slice A0_3 l0_3.length c0_3, .slice A0_4 l0_4.length c0_4]] w fun e w' => e = .returned (.bool r) ∧ Below w.heap.size w w' := by
  have hu30 := Try.underlying30
  have HR0_3 := Aside0.mk hr0_3
  have HC0_3 := Aside0.mk hc0_3
  clear hr0_3 hc0_3
  have HR0_4 := Aside0.mk hr0_4
  have HC0_4 := Aside0.mk hc0_4
  clear hr0_4 hc0_4
  have HB := Aside0.mk (Below.refl w.heap.size w)
  have H : ((impl_measured.f k a0_0 a0_1 a0_2 l0_3 l0_4 6).bind fun t230 => (some (decide (t230 ≤ 300)))) = some r := h
  clear h
  replace H := Option.bind_eq_some_iff.mp H
  obtain ⟨t230, A20, H⟩ := H
  replace H : (some (decide (t230 ≤ 300))) = some r := H
  have A2 := Aside0.mk A20
  clear A20
  obtain rfl := Option.some.inj H
  go_enter Try.func18, Try.ntmps18
  go_wp2_with (first | ((with_reducible refine gate_dst (N := 1) rfl ?_); refine box_event ?hg (N := 1) ?hd (cs := #[.int .i64 a0_0, .string a0_1, .int .i64 a0_2, .slice A0_3 l0_3.length c0_3, .slice A0_4 l0_4.length c0_4]) (t := 30) ?hr ?_; (case hd => rfl); (case hg => rfl); (case hr => first | (go_simp; done) | (go_simp; rfl)); intro gb229 hg w3 hbox hb; have n0_ := Aside0.mk (below_step (by repeat (first | (with_reducible first | exact HB.out | apply below_alloc | apply pw_below_drewN | apply below_drew1) | exact HB.out)) hb); have n1_ := Aside0.mk (hbox); have n2_ := Aside0.mk ((by rw [hg]; exact (below_size (by repeat (first | (with_reducible first | exact HB.out | apply below_alloc | apply pw_below_drewN | apply below_drew1) | exact HB.out))) : w.heap.size ≤ gb229)); have n3_ := Aside0.mk ((by rw [hg]; exact (below_size (by repeat (first | (with_reducible first | exact HB.out | apply below_alloc | apply pw_below_drewN | apply below_drew1) | exact HB.out))) : w.heap.size ≤ gb229)); clear HB; have HB := n0_; have BK229 := n1_; have GW229 := n2_; have GE229 := n3_; clear n0_ n1_ n2_ n3_; clear hb hbox hg; have hcz4_0 : w3.cell? ⟨gb229, 0, none⟩ = some (.int .i64 a0_0) := (blk_cell BK229.out 0).trans rfl; have hcz4_1 : w3.cell? ⟨gb229, 1, none⟩ = some (.string a0_1) := (blk_cell BK229.out 1).trans rfl; have hcz4_2 : w3.cell? ⟨gb229, 2, none⟩ = some (.int .i64 a0_2) := (blk_cell BK229.out 2).trans rfl; have hcz4_3 : w3.cell? ⟨gb229, 3, none⟩ = some (.slice A0_3 l0_3.length c0_3) := (blk_cell BK229.out 3).trans rfl; have hcz4_4 : w3.cell? ⟨gb229, 4, none⟩ = some (.slice A0_4 l0_4.length c0_4) := (blk_cell BK229.out 4).trans rfl; have hfz4_0 := blk_frozen BK229.out 0; have hfz4_1 := blk_frozen BK229.out 1; have hfz4_2 := blk_frozen BK229.out 2; have hfz4_3 := blk_frozen BK229.out 3; have hfz4_4 := blk_frozen BK229.out 4) | ((with_reducible refine gate_callee (f := 55) rfl ?_); refine goesL_ (some 4) rfl rfl Try.func55 (by kernel_rfl) rfl #[.agg #[.int .i64 a0_0, .string a0_1, .int .i64 a0_2, .slice A0_3 l0_3.length c0_3, .slice A0_4 l0_4.length c0_4], .int .i64 6] rfl (by (try simp only [List.map_toArray, List.map_cons, List.map_nil]); first | done | rfl | (simp only [List.length_drop, List.length_take]; rfl)) ?_; (with_reducible refine (impl_measured.calls k a0_0 a0_1 a0_2 _ _ l0_3 _ _ l0_4 6 t230 _ ?side1 ?side2 ?side3 ?side4 A2.out).mono ?_); (case side1 => repeat (first | exact (Kd.C_below HR0_3.out HB.out) | (with_reducible refine Kd.C_alloc ?_ _) | (with_reducible refine Kd.C_drewN ?_ _) | (with_reducible refine Kd.C_drew ?_))); (case side2 => exact HC0_3.out); (case side3 => repeat (first | exact (Kd.C_below HR0_4.out HB.out) | (with_reducible refine Kd.C_alloc ?_ _) | (with_reducible refine Kd.C_drewN ?_ _) | (with_reducible refine Kd.C_drew ?_))); (case side4 => exact HC0_4.out); rintro e w5 ⟨rfl, hb⟩; refine ⟨_, rfl, ?_⟩; have n0_ := Aside0.mk (blk_below (g := gb229) (o := .cells #[.int .i64 a0_0, .string a0_1, .int .i64 a0_2, .slice A0_3 l0_3.length c0_3, .slice A0_4 l0_4.length c0_4] 30 (0, 0)) (by (with_reducible repeat (first | refine blk_drewN ?_ _ | refine blk_drew ?_ | refine blk_alloc ?_ _)); exact BK229.out) hb); have n1_ := Aside0.mk (below_step (by repeat (first | (with_reducible first | exact HB.out | apply below_alloc | apply pw_below_drewN | apply below_drew1 | refine below_set ?_ GE229.out) | exact HB.out)) hb); clear BK229; clear HB; have BK229 := n0_; have HB := n1_; clear n0_ n1_; (try clear hb); (try clear hb2); (try clear hk); (try clear hi)))
  go_ret
  exact ⟨by first | rfl | (simp [errW_none, errW_some] <;> rfl) | (simp [*, errW_none, errW_some] <;> rfl), by repeat (first | (with_reducible first | exact HB.out | apply below_alloc | apply pw_below_drewN | apply below_drew1 | refine below_set ?_ GE229.out) | exact HB.out)⟩

end Go.Proofs.Ytchhognpijobcaa.G

/- G17 -/
-- Laid by wip/g/gprint.py out of the translation, by the kit's print program. Lean checks it.
namespace Go.Proofs.Ytchhognpijobcaa.G
open Go.RowKit Go.Proofs.YtchhognpijobcaaW.PrintWords Go.Proofs.YtchhognpijobcaaW.PrintLast Go.Proofs.YtchhognpijobcaaW.PrintMore
attribute [local go_sem] max2_int min2_int max_two min_two max_three min_three max_four min_four   -- for this text's walks alone
set_option linter.unusedVariables false
set_option linter.unusedSimpArgs false

/-! ### spec_ValueOk: function 17 -/
def spec_ValueOk.f (k : Nat) (a0_0 : Int) (a0_1 : ByteArray) (a0_2 : Int) (l0_3 : List ByteArray) (l0_4 : List (S30)) : Option (Bool) := (spec_l4Look.f k a0_0 a0_1 a0_2 l0_3 l0_4 6).bind fun t215 => (some (decide (t215 > 0)))
theorem spec_ValueOk.mono : ∀ a0 a1 a2 a3 a4 k, LeO (spec_ValueOk.f k a0 a1 a2 a3 a4) (spec_ValueOk.f (k + 1) a0 a1 a2 a3 a4) := by
  intro a0 a1 a2 a3 a4 k
  unfold spec_ValueOk.f
  repeat' first
      | (with_reducible exact spec_l4Look.mono _ _ _ _ _ _ _)
      | (with_reducible exact LeO.refl _)
      | (with_reducible exact LeO.none _)
      | (with_reducible refine LeO.ite ?_ ?_)
      | (with_reducible refine LeO.bind ?_ (fun _ => ?_))
      | exact spec_l4Look.mono _ _ _ _ _ _ _
      | exact LeO.none _
      | refine LeO.ite ?_ ?_
      | refine LeO.bind ?_ (fun _ => ?_)
set_option maxHeartbeats 8000000 in
set_option maxRecDepth 100000 in
theorem spec_ValueOk.calls (k : Nat) (a0_0 : Int) (a0_1 : ByteArray) (a0_2 : Int) (A0_3 : Option Addr) (c0_3 : Nat) (l0_3 : List ByteArray) (A0_4 : Option Addr) (c0_4 : Nat) (l0_4 : List (S30)) (r : Bool) (w : World) (hr0_3 : Kd.C Kd.string w A0_3 l0_3.length l0_3) (hc0_3 : l0_3.length ≤ c0_3) (hr0_4 : Kd.C k30 w A0_4 l0_4.length l0_4) (hc0_4 : l0_4.length ≤ c0_4) (h : spec_ValueOk.f k a0_0 a0_1 a0_2 l0_3 l0_4 = some r) :
    Calls Try.prog 17 #[.agg #[.int .i64 a0_0, .string a0_1, .int .i64 a0_2, .slice A0_3 l0_3.length c0_3, .slice A0_4 l0_4.length c0_4]] w fun e w' => e = .returned (.bool r) ∧ Below w.heap.size w w' := by
  have hu30 := Try.underlying30
  have HR0_3 := Aside0.mk hr0_3
  have HC0_3 := Aside0.mk hc0_3
  clear hr0_3 hc0_3
  have HR0_4 := Aside0.mk hr0_4
  have HC0_4 := Aside0.mk hc0_4
  clear hr0_4 hc0_4
  have HB := Aside0.mk (Below.refl w.heap.size w)
  have H : ((spec_l4Look.f k a0_0 a0_1 a0_2 l0_3 l0_4 6).bind fun t215 => (some (decide (t215 > 0)))) = some r := h
  clear h
  replace H := Option.bind_eq_some_iff.mp H
  obtain ⟨t215, A20, H⟩ := H
  replace H : (some (decide (t215 > 0))) = some r := H
  have A2 := Aside0.mk A20
  clear A20
  obtain rfl := Option.some.inj H
  go_enter Try.func17, Try.ntmps17
  go_wp2_with (first | ((with_reducible refine gate_dst (N := 1) rfl ?_); refine box_event ?hg (N := 1) ?hd (cs := #[.int .i64 a0_0, .string a0_1, .int .i64 a0_2, .slice A0_3 l0_3.length c0_3, .slice A0_4 l0_4.length c0_4]) (t := 30) ?hr ?_; (case hd => rfl); (case hg => rfl); (case hr => first | (go_simp; done) | (go_simp; rfl)); intro gb214 hg w3 hbox hb; have n0_ := Aside0.mk (below_step (by repeat (first | (with_reducible first | exact HB.out | apply below_alloc | apply pw_below_drewN | apply below_drew1) | exact HB.out)) hb); have n1_ := Aside0.mk (hbox); have n2_ := Aside0.mk ((by rw [hg]; exact (below_size (by repeat (first | (with_reducible first | exact HB.out | apply below_alloc | apply pw_below_drewN | apply below_drew1) | exact HB.out))) : w.heap.size ≤ gb214)); have n3_ := Aside0.mk ((by rw [hg]; exact (below_size (by repeat (first | (with_reducible first | exact HB.out | apply below_alloc | apply pw_below_drewN | apply below_drew1) | exact HB.out))) : w.heap.size ≤ gb214)); clear HB; have HB := n0_; have BK214 := n1_; have GW214 := n2_; have GE214 := n3_; clear n0_ n1_ n2_ n3_; clear hb hbox hg; have hcz4_0 : w3.cell? ⟨gb214, 0, none⟩ = some (.int .i64 a0_0) := (blk_cell BK214.out 0).trans rfl; have hcz4_1 : w3.cell? ⟨gb214, 1, none⟩ = some (.string a0_1) := (blk_cell BK214.out 1).trans rfl; have hcz4_2 : w3.cell? ⟨gb214, 2, none⟩ = some (.int .i64 a0_2) := (blk_cell BK214.out 2).trans rfl; have hcz4_3 : w3.cell? ⟨gb214, 3, none⟩ = some (.slice A0_3 l0_3.length c0_3) := (blk_cell BK214.out 3).trans rfl; have hcz4_4 : w3.cell? ⟨gb214, 4, none⟩ = some (.slice A0_4 l0_4.length c0_4) := (blk_cell BK214.out 4).trans rfl; have hfz4_0 := blk_frozen BK214.out 0; have hfz4_1 := blk_frozen BK214.out 1; have hfz4_2 := blk_frozen BK214.out 2; have hfz4_3 := blk_frozen BK214.out 3; have hfz4_4 := blk_frozen BK214.out 4) | ((with_reducible refine gate_callee (f := 54) rfl ?_); refine goesL_ (some 4) rfl rfl Try.func54 (by kernel_rfl) rfl #[.agg #[.int .i64 a0_0, .string a0_1, .int .i64 a0_2, .slice A0_3 l0_3.length c0_3, .slice A0_4 l0_4.length c0_4], .int .i64 6] rfl (by (try simp only [List.map_toArray, List.map_cons, List.map_nil]); first | done | rfl | (simp only [List.length_drop, List.length_take]; rfl)) ?_; (with_reducible refine (spec_l4Look.calls k a0_0 a0_1 a0_2 _ _ l0_3 _ _ l0_4 6 t215 _ ?side1 ?side2 ?side3 ?side4 A2.out).mono ?_); (case side1 => repeat (first | exact (Kd.C_below HR0_3.out HB.out) | (with_reducible refine Kd.C_alloc ?_ _) | (with_reducible refine Kd.C_drewN ?_ _) | (with_reducible refine Kd.C_drew ?_))); (case side2 => exact HC0_3.out); (case side3 => repeat (first | exact (Kd.C_below HR0_4.out HB.out) | (with_reducible refine Kd.C_alloc ?_ _) | (with_reducible refine Kd.C_drewN ?_ _) | (with_reducible refine Kd.C_drew ?_))); (case side4 => exact HC0_4.out); rintro e w5 ⟨rfl, hb⟩; refine ⟨_, rfl, ?_⟩; have n0_ := Aside0.mk (blk_below (g := gb214) (o := .cells #[.int .i64 a0_0, .string a0_1, .int .i64 a0_2, .slice A0_3 l0_3.length c0_3, .slice A0_4 l0_4.length c0_4] 30 (0, 0)) (by (with_reducible repeat (first | refine blk_drewN ?_ _ | refine blk_drew ?_ | refine blk_alloc ?_ _)); exact BK214.out) hb); have n1_ := Aside0.mk (below_step (by repeat (first | (with_reducible first | exact HB.out | apply below_alloc | apply pw_below_drewN | apply below_drew1 | refine below_set ?_ GE214.out) | exact HB.out)) hb); clear BK214; clear HB; have BK214 := n0_; have HB := n1_; clear n0_ n1_; (try clear hb); (try clear hb2); (try clear hk); (try clear hi)))
  go_ret
  exact ⟨by first | rfl | (simp [errW_none, errW_some] <;> rfl) | (simp [*, errW_none, errW_some] <;> rfl), by repeat (first | (with_reducible first | exact HB.out | apply below_alloc | apply pw_below_drewN | apply below_drew1 | refine below_set ?_ GE214.out) | exact HB.out)⟩

end Go.Proofs.Ytchhognpijobcaa.G

/- G20 -/
-- Laid by wip/g/gprint.py out of the translation, by the kit's print program. Lean checks it.
namespace Go.Proofs.Ytchhognpijobcaa.G
open Go.RowKit Go.Proofs.YtchhognpijobcaaW.PrintWords Go.Proofs.YtchhognpijobcaaW.PrintLast Go.Proofs.YtchhognpijobcaaW.PrintMore
attribute [local go_sem] max2_int min2_int max_two min_two max_three min_three max_four min_four   -- for this text's walks alone
set_option linter.unusedVariables false
set_option linter.unusedSimpArgs false

/-! ### impl_SizeOf: function 20 -/
def impl_SizeOf.f (k : Nat) (a0_0 : Int) (a0_1 : ByteArray) (a0_2 : Int) (l0_3 : List ByteArray) (l0_4 : List (S30)) : Option (Int) := (impl_ValueOk.f k a0_0 a0_1 a0_2 l0_3 l0_4).bind fun t267 => (if t267 = true then ((impl_measured.f k a0_0 a0_1 a0_2 l0_3 l0_4 6).bind fun t268 => (some t268)) else (some 0))
theorem impl_SizeOf.mono : ∀ a0 a1 a2 a3 a4 k, LeO (impl_SizeOf.f k a0 a1 a2 a3 a4) (impl_SizeOf.f (k + 1) a0 a1 a2 a3 a4) := by
  intro a0 a1 a2 a3 a4 k
  unfold impl_SizeOf.f
  repeat' first
      | (with_reducible exact impl_ValueOk.mono _ _ _ _ _ _)
      | (with_reducible exact impl_measured.mono _ _ _ _ _ _ _)
      | (with_reducible exact LeO.refl _)
      | (with_reducible exact LeO.none _)
      | (with_reducible refine LeO.ite ?_ ?_)
      | (with_reducible refine LeO.bind ?_ (fun _ => ?_))
      | exact impl_ValueOk.mono _ _ _ _ _ _
      | exact impl_measured.mono _ _ _ _ _ _ _
      | exact LeO.none _
      | refine LeO.ite ?_ ?_
      | refine LeO.bind ?_ (fun _ => ?_)
set_option maxHeartbeats 8000000 in
set_option maxRecDepth 100000 in
theorem impl_SizeOf.calls (k : Nat) (a0_0 : Int) (a0_1 : ByteArray) (a0_2 : Int) (A0_3 : Option Addr) (c0_3 : Nat) (l0_3 : List ByteArray) (A0_4 : Option Addr) (c0_4 : Nat) (l0_4 : List (S30)) (r : Int) (w : World) (hr0_3 : Kd.C Kd.string w A0_3 l0_3.length l0_3) (hc0_3 : l0_3.length ≤ c0_3) (hr0_4 : Kd.C k30 w A0_4 l0_4.length l0_4) (hc0_4 : l0_4.length ≤ c0_4) (h : impl_SizeOf.f k a0_0 a0_1 a0_2 l0_3 l0_4 = some r) :
    Calls Try.prog 20 #[.agg #[.int .i64 a0_0, .string a0_1, .int .i64 a0_2, .slice A0_3 l0_3.length c0_3, .slice A0_4 l0_4.length c0_4]] w fun e w' => e = .returned (.int .i64 r) ∧ Below w.heap.size w w' := by
  have hu30 := Try.underlying30
  have HR0_3 := Aside0.mk hr0_3
  have HC0_3 := Aside0.mk hc0_3
  clear hr0_3 hc0_3
  have HR0_4 := Aside0.mk hr0_4
  have HC0_4 := Aside0.mk hc0_4
  clear hr0_4 hc0_4
  have HB := Aside0.mk (Below.refl w.heap.size w)
  have H : ((impl_ValueOk.f k a0_0 a0_1 a0_2 l0_3 l0_4).bind fun t267 => (if t267 = true then ((impl_measured.f k a0_0 a0_1 a0_2 l0_3 l0_4 6).bind fun t268 => (some t268)) else (some 0))) = some r := h
  clear h
  replace H := Option.bind_eq_some_iff.mp H
  obtain ⟨t267, A20, H⟩ := H
  replace H : (if t267 = true then ((impl_measured.f k a0_0 a0_1 a0_2 l0_3 l0_4 6).bind fun t268 => (some t268)) else (some 0)) = some r := H
  have A2 := Aside0.mk A20
  clear A20
  by_cases c3 : t267 = true
  · subst c3
    have H1 : ((impl_measured.f k a0_0 a0_1 a0_2 l0_3 l0_4 6).bind fun t268 => (some t268)) = some r := by rw [if_pos rfl] at H; exact H
    clear H
    have H := H1
    clear H1
    replace H := Option.bind_eq_some_iff.mp H
    obtain ⟨t268, A40, H⟩ := H
    replace H : (some t268) = some r := H
    have A4 := Aside0.mk A40
    clear A40
    obtain rfl := Option.some.inj H
    go_enter Try.func20, Try.ntmps20
    go_wp2_with (first | ((with_reducible refine gate_dst (N := 1) rfl ?_); refine box_event ?hg (N := 1) ?hd (cs := #[.int .i64 a0_0, .string a0_1, .int .i64 a0_2, .slice A0_3 l0_3.length c0_3, .slice A0_4 l0_4.length c0_4]) (t := 30) ?hr ?_; (case hd => rfl); (case hg => rfl); (case hr => first | (go_simp; done) | (go_simp; rfl)); intro gb266 hg w5 hbox hb; have n0_ := Aside0.mk (below_step (by repeat (first | (with_reducible first | exact HB.out | apply below_alloc | apply pw_below_drewN | apply below_drew1) | exact HB.out)) hb); have n1_ := Aside0.mk (hbox); have n2_ := Aside0.mk ((by rw [hg]; exact (below_size (by repeat (first | (with_reducible first | exact HB.out | apply below_alloc | apply pw_below_drewN | apply below_drew1) | exact HB.out))) : w.heap.size ≤ gb266)); have n3_ := Aside0.mk ((by rw [hg]; exact (below_size (by repeat (first | (with_reducible first | exact HB.out | apply below_alloc | apply pw_below_drewN | apply below_drew1) | exact HB.out))) : w.heap.size ≤ gb266)); clear HB; have HB := n0_; have BK266 := n1_; have GW266 := n2_; have GE266 := n3_; clear n0_ n1_ n2_ n3_; clear hb hbox hg; have hcz6_0 : w5.cell? ⟨gb266, 0, none⟩ = some (.int .i64 a0_0) := (blk_cell BK266.out 0).trans rfl; have hcz6_1 : w5.cell? ⟨gb266, 1, none⟩ = some (.string a0_1) := (blk_cell BK266.out 1).trans rfl; have hcz6_2 : w5.cell? ⟨gb266, 2, none⟩ = some (.int .i64 a0_2) := (blk_cell BK266.out 2).trans rfl; have hcz6_3 : w5.cell? ⟨gb266, 3, none⟩ = some (.slice A0_3 l0_3.length c0_3) := (blk_cell BK266.out 3).trans rfl; have hcz6_4 : w5.cell? ⟨gb266, 4, none⟩ = some (.slice A0_4 l0_4.length c0_4) := (blk_cell BK266.out 4).trans rfl; have hfz6_0 := blk_frozen BK266.out 0; have hfz6_1 := blk_frozen BK266.out 1; have hfz6_2 := blk_frozen BK266.out 2; have hfz6_3 := blk_frozen BK266.out 3; have hfz6_4 := blk_frozen BK266.out 4) | ((with_reducible refine gate_callee (f := 18) rfl ?_); refine goesL_ (some 4) rfl rfl Try.func18 (by kernel_rfl) rfl #[.agg #[.int .i64 a0_0, .string a0_1, .int .i64 a0_2, .slice A0_3 l0_3.length c0_3, .slice A0_4 l0_4.length c0_4]] rfl (by (try simp only [List.map_toArray, List.map_cons, List.map_nil]); first | done | rfl | (simp only [List.length_drop, List.length_take]; rfl)) ?_; (with_reducible refine (impl_ValueOk.calls k a0_0 a0_1 a0_2 _ _ l0_3 _ _ l0_4 true _ ?side1 ?side2 ?side3 ?side4 A2.out).mono ?_); (case side1 => repeat (first | exact (Kd.C_below HR0_3.out HB.out) | (with_reducible refine Kd.C_alloc ?_ _) | (with_reducible refine Kd.C_drewN ?_ _) | (with_reducible refine Kd.C_drew ?_))); (case side2 => exact HC0_3.out); (case side3 => repeat (first | exact (Kd.C_below HR0_4.out HB.out) | (with_reducible refine Kd.C_alloc ?_ _) | (with_reducible refine Kd.C_drewN ?_ _) | (with_reducible refine Kd.C_drew ?_))); (case side4 => exact HC0_4.out); rintro e w7 ⟨rfl, hb⟩; refine ⟨_, rfl, ?_⟩; have n0_ := Aside0.mk (blk_below (g := gb266) (o := .cells #[.int .i64 a0_0, .string a0_1, .int .i64 a0_2, .slice A0_3 l0_3.length c0_3, .slice A0_4 l0_4.length c0_4] 30 (0, 0)) (by (with_reducible repeat (first | refine blk_drewN ?_ _ | refine blk_drew ?_ | refine blk_alloc ?_ _)); exact BK266.out) hb); have n1_ := Aside0.mk (below_step (by repeat (first | (with_reducible first | exact HB.out | apply below_alloc | apply pw_below_drewN | apply below_drew1 | refine below_set ?_ GE266.out) | exact HB.out)) hb); clear BK266; clear HB; have BK266 := n0_; have HB := n1_; clear n0_ n1_; (try clear hb); (try clear hb2); (try clear hk); (try clear hi); have hcz8_0 : w7.cell? ⟨gb266, 0, none⟩ = some (.int .i64 a0_0) := (blk_cell BK266.out 0).trans rfl; have hcz8_1 : w7.cell? ⟨gb266, 1, none⟩ = some (.string a0_1) := (blk_cell BK266.out 1).trans rfl; have hcz8_2 : w7.cell? ⟨gb266, 2, none⟩ = some (.int .i64 a0_2) := (blk_cell BK266.out 2).trans rfl; have hcz8_3 : w7.cell? ⟨gb266, 3, none⟩ = some (.slice A0_3 l0_3.length c0_3) := (blk_cell BK266.out 3).trans rfl; have hcz8_4 : w7.cell? ⟨gb266, 4, none⟩ = some (.slice A0_4 l0_4.length c0_4) := (blk_cell BK266.out 4).trans rfl; have hfz8_0 := blk_frozen BK266.out 0; have hfz8_1 := blk_frozen BK266.out 1; have hfz8_2 := blk_frozen BK266.out 2; have hfz8_3 := blk_frozen BK266.out 3; have hfz8_4 := blk_frozen BK266.out 4) | ((with_reducible refine gate_callee (f := 55) rfl ?_); refine goesL_ (some 7) rfl rfl Try.func55 (by kernel_rfl) rfl #[.agg #[.int .i64 a0_0, .string a0_1, .int .i64 a0_2, .slice A0_3 l0_3.length c0_3, .slice A0_4 l0_4.length c0_4], .int .i64 6] rfl (by (try simp only [List.map_toArray, List.map_cons, List.map_nil]); first | done | rfl | (simp only [List.length_drop, List.length_take]; rfl)) ?_; (with_reducible refine (impl_measured.calls k a0_0 a0_1 a0_2 _ _ l0_3 _ _ l0_4 6 t268 _ ?side1 ?side2 ?side3 ?side4 A4.out).mono ?_); (case side1 => repeat (first | exact (Kd.C_below HR0_3.out HB.out) | (with_reducible refine Kd.C_alloc ?_ _) | (with_reducible refine Kd.C_drewN ?_ _) | (with_reducible refine Kd.C_drew ?_))); (case side2 => exact HC0_3.out); (case side3 => repeat (first | exact (Kd.C_below HR0_4.out HB.out) | (with_reducible refine Kd.C_alloc ?_ _) | (with_reducible refine Kd.C_drewN ?_ _) | (with_reducible refine Kd.C_drew ?_))); (case side4 => exact HC0_4.out); rintro e w9 ⟨rfl, hb⟩; refine ⟨_, rfl, ?_⟩; have n0_ := Aside0.mk (blk_below (g := gb266) (o := .cells #[.int .i64 a0_0, .string a0_1, .int .i64 a0_2, .slice A0_3 l0_3.length c0_3, .slice A0_4 l0_4.length c0_4] 30 (0, 0)) (by (with_reducible repeat (first | refine blk_drewN ?_ _ | refine blk_drew ?_ | refine blk_alloc ?_ _)); exact BK266.out) hb); have n1_ := Aside0.mk (below_step (by repeat (first | (with_reducible first | exact HB.out | apply below_alloc | apply pw_below_drewN | apply below_drew1 | refine below_set ?_ GE266.out) | exact HB.out)) hb); clear BK266; clear HB; have BK266 := n0_; have HB := n1_; clear n0_ n1_; (try clear hb); (try clear hb2); (try clear hk); (try clear hi)))
    go_ret
    exact ⟨by first | rfl | (simp [errW_none, errW_some] <;> rfl) | (simp [*, errW_none, errW_some] <;> rfl), by repeat (first | (with_reducible first | exact HB.out | apply below_alloc | apply pw_below_drewN | apply below_drew1 | refine below_set ?_ GE266.out) | exact HB.out)⟩
  · replace c3 := Bool.eq_false_iff.mpr c3
    subst c3
    have H1 : (some 0) = some r := by rw [if_neg (show ¬ (false = true) by decide)] at H; exact H
    clear H
    have H := H1
    clear H1
    obtain rfl := Option.some.inj H
    go_enter Try.func20, Try.ntmps20
    go_wp2_with (first | ((with_reducible refine gate_dst (N := 1) rfl ?_); refine box_event ?hg (N := 1) ?hd (cs := #[.int .i64 a0_0, .string a0_1, .int .i64 a0_2, .slice A0_3 l0_3.length c0_3, .slice A0_4 l0_4.length c0_4]) (t := 30) ?hr ?_; (case hd => rfl); (case hg => rfl); (case hr => first | (go_simp; done) | (go_simp; rfl)); intro gb266 hg w10 hbox hb; have n0_ := Aside0.mk (below_step (by repeat (first | (with_reducible first | exact HB.out | apply below_alloc | apply pw_below_drewN | apply below_drew1) | exact HB.out)) hb); have n1_ := Aside0.mk (hbox); have n2_ := Aside0.mk ((by rw [hg]; exact (below_size (by repeat (first | (with_reducible first | exact HB.out | apply below_alloc | apply pw_below_drewN | apply below_drew1) | exact HB.out))) : w.heap.size ≤ gb266)); have n3_ := Aside0.mk ((by rw [hg]; exact (below_size (by repeat (first | (with_reducible first | exact HB.out | apply below_alloc | apply pw_below_drewN | apply below_drew1) | exact HB.out))) : w.heap.size ≤ gb266)); clear HB; have HB := n0_; have BK266 := n1_; have GW266 := n2_; have GE266 := n3_; clear n0_ n1_ n2_ n3_; clear hb hbox hg; have hcz11_0 : w10.cell? ⟨gb266, 0, none⟩ = some (.int .i64 a0_0) := (blk_cell BK266.out 0).trans rfl; have hcz11_1 : w10.cell? ⟨gb266, 1, none⟩ = some (.string a0_1) := (blk_cell BK266.out 1).trans rfl; have hcz11_2 : w10.cell? ⟨gb266, 2, none⟩ = some (.int .i64 a0_2) := (blk_cell BK266.out 2).trans rfl; have hcz11_3 : w10.cell? ⟨gb266, 3, none⟩ = some (.slice A0_3 l0_3.length c0_3) := (blk_cell BK266.out 3).trans rfl; have hcz11_4 : w10.cell? ⟨gb266, 4, none⟩ = some (.slice A0_4 l0_4.length c0_4) := (blk_cell BK266.out 4).trans rfl; have hfz11_0 := blk_frozen BK266.out 0; have hfz11_1 := blk_frozen BK266.out 1; have hfz11_2 := blk_frozen BK266.out 2; have hfz11_3 := blk_frozen BK266.out 3; have hfz11_4 := blk_frozen BK266.out 4) | ((with_reducible refine gate_callee (f := 18) rfl ?_); refine goesL_ (some 4) rfl rfl Try.func18 (by kernel_rfl) rfl #[.agg #[.int .i64 a0_0, .string a0_1, .int .i64 a0_2, .slice A0_3 l0_3.length c0_3, .slice A0_4 l0_4.length c0_4]] rfl (by (try simp only [List.map_toArray, List.map_cons, List.map_nil]); first | done | rfl | (simp only [List.length_drop, List.length_take]; rfl)) ?_; (with_reducible refine (impl_ValueOk.calls k a0_0 a0_1 a0_2 _ _ l0_3 _ _ l0_4 false _ ?side1 ?side2 ?side3 ?side4 A2.out).mono ?_); (case side1 => repeat (first | exact (Kd.C_below HR0_3.out HB.out) | (with_reducible refine Kd.C_alloc ?_ _) | (with_reducible refine Kd.C_drewN ?_ _) | (with_reducible refine Kd.C_drew ?_))); (case side2 => exact HC0_3.out); (case side3 => repeat (first | exact (Kd.C_below HR0_4.out HB.out) | (with_reducible refine Kd.C_alloc ?_ _) | (with_reducible refine Kd.C_drewN ?_ _) | (with_reducible refine Kd.C_drew ?_))); (case side4 => exact HC0_4.out); rintro e w12 ⟨rfl, hb⟩; refine ⟨_, rfl, ?_⟩; have n0_ := Aside0.mk (blk_below (g := gb266) (o := .cells #[.int .i64 a0_0, .string a0_1, .int .i64 a0_2, .slice A0_3 l0_3.length c0_3, .slice A0_4 l0_4.length c0_4] 30 (0, 0)) (by (with_reducible repeat (first | refine blk_drewN ?_ _ | refine blk_drew ?_ | refine blk_alloc ?_ _)); exact BK266.out) hb); have n1_ := Aside0.mk (below_step (by repeat (first | (with_reducible first | exact HB.out | apply below_alloc | apply pw_below_drewN | apply below_drew1 | refine below_set ?_ GE266.out) | exact HB.out)) hb); clear BK266; clear HB; have BK266 := n0_; have HB := n1_; clear n0_ n1_; (try clear hb); (try clear hb2); (try clear hk); (try clear hi)))
    go_ret
    exact ⟨by first | rfl | (simp [errW_none, errW_some] <;> rfl) | (simp [*, errW_none, errW_some] <;> rfl), by repeat (first | (with_reducible first | exact HB.out | apply below_alloc | apply pw_below_drewN | apply below_drew1 | refine below_set ?_ GE266.out) | exact HB.out)⟩

end Go.Proofs.Ytchhognpijobcaa.G

/- G19 -/
-- Laid by wip/g/gprint.py out of the translation, by the kit's print program. Lean checks it.
namespace Go.Proofs.Ytchhognpijobcaa.G
open Go.RowKit Go.Proofs.YtchhognpijobcaaW.PrintWords Go.Proofs.YtchhognpijobcaaW.PrintLast Go.Proofs.YtchhognpijobcaaW.PrintMore
attribute [local go_sem] max2_int min2_int max_two min_two max_three min_three max_four min_four   -- for this text's walks alone
set_option linter.unusedVariables false
set_option linter.unusedSimpArgs false

/-! ### spec_SizeOf: function 19 -/
def spec_SizeOf.f (k : Nat) (a0_0 : Int) (a0_1 : ByteArray) (a0_2 : Int) (l0_3 : List ByteArray) (l0_4 : List (S30)) : Option (Int) := (spec_l4Look.f k a0_0 a0_1 a0_2 l0_3 l0_4 6).bind fun t265 => (some t265)
theorem spec_SizeOf.mono : ∀ a0 a1 a2 a3 a4 k, LeO (spec_SizeOf.f k a0 a1 a2 a3 a4) (spec_SizeOf.f (k + 1) a0 a1 a2 a3 a4) := by
  intro a0 a1 a2 a3 a4 k
  unfold spec_SizeOf.f
  repeat' first
      | (with_reducible exact spec_l4Look.mono _ _ _ _ _ _ _)
      | (with_reducible exact LeO.refl _)
      | (with_reducible exact LeO.none _)
      | (with_reducible refine LeO.ite ?_ ?_)
      | (with_reducible refine LeO.bind ?_ (fun _ => ?_))
      | exact spec_l4Look.mono _ _ _ _ _ _ _
      | exact LeO.none _
      | refine LeO.ite ?_ ?_
      | refine LeO.bind ?_ (fun _ => ?_)
set_option maxHeartbeats 8000000 in
set_option maxRecDepth 100000 in
theorem spec_SizeOf.calls (k : Nat) (a0_0 : Int) (a0_1 : ByteArray) (a0_2 : Int) (A0_3 : Option Addr) (c0_3 : Nat) (l0_3 : List ByteArray) (A0_4 : Option Addr) (c0_4 : Nat) (l0_4 : List (S30)) (r : Int) (w : World) (hr0_3 : Kd.C Kd.string w A0_3 l0_3.length l0_3) (hc0_3 : l0_3.length ≤ c0_3) (hr0_4 : Kd.C k30 w A0_4 l0_4.length l0_4) (hc0_4 : l0_4.length ≤ c0_4) (h : spec_SizeOf.f k a0_0 a0_1 a0_2 l0_3 l0_4 = some r) :
    Calls Try.prog 19 #[.agg #[.int .i64 a0_0, .string a0_1, .int .i64 a0_2, .slice A0_3 l0_3.length c0_3, .slice A0_4 l0_4.length c0_4]] w fun e w' => e = .returned (.int .i64 r) ∧ Below w.heap.size w w' := by
  have hu30 := Try.underlying30
  have HR0_3 := Aside0.mk hr0_3
  have HC0_3 := Aside0.mk hc0_3
  clear hr0_3 hc0_3
  have HR0_4 := Aside0.mk hr0_4
  have HC0_4 := Aside0.mk hc0_4
  clear hr0_4 hc0_4
  have HB := Aside0.mk (Below.refl w.heap.size w)
  have H : ((spec_l4Look.f k a0_0 a0_1 a0_2 l0_3 l0_4 6).bind fun t265 => (some t265)) = some r := h
  clear h
  replace H := Option.bind_eq_some_iff.mp H
  obtain ⟨t265, A20, H⟩ := H
  replace H : (some t265) = some r := H
  have A2 := Aside0.mk A20
  clear A20
  obtain rfl := Option.some.inj H
  go_enter Try.func19, Try.ntmps19
  go_wp2_with (first | ((with_reducible refine gate_dst (N := 1) rfl ?_); refine box_event ?hg (N := 1) ?hd (cs := #[.int .i64 a0_0, .string a0_1, .int .i64 a0_2, .slice A0_3 l0_3.length c0_3, .slice A0_4 l0_4.length c0_4]) (t := 30) ?hr ?_; (case hd => rfl); (case hg => rfl); (case hr => first | (go_simp; done) | (go_simp; rfl)); intro gb264 hg w3 hbox hb; have n0_ := Aside0.mk (below_step (by repeat (first | (with_reducible first | exact HB.out | apply below_alloc | apply pw_below_drewN | apply below_drew1) | exact HB.out)) hb); have n1_ := Aside0.mk (hbox); have n2_ := Aside0.mk ((by rw [hg]; exact (below_size (by repeat (first | (with_reducible first | exact HB.out | apply below_alloc | apply pw_below_drewN | apply below_drew1) | exact HB.out))) : w.heap.size ≤ gb264)); have n3_ := Aside0.mk ((by rw [hg]; exact (below_size (by repeat (first | (with_reducible first | exact HB.out | apply below_alloc | apply pw_below_drewN | apply below_drew1) | exact HB.out))) : w.heap.size ≤ gb264)); clear HB; have HB := n0_; have BK264 := n1_; have GW264 := n2_; have GE264 := n3_; clear n0_ n1_ n2_ n3_; clear hb hbox hg; have hcz4_0 : w3.cell? ⟨gb264, 0, none⟩ = some (.int .i64 a0_0) := (blk_cell BK264.out 0).trans rfl; have hcz4_1 : w3.cell? ⟨gb264, 1, none⟩ = some (.string a0_1) := (blk_cell BK264.out 1).trans rfl; have hcz4_2 : w3.cell? ⟨gb264, 2, none⟩ = some (.int .i64 a0_2) := (blk_cell BK264.out 2).trans rfl; have hcz4_3 : w3.cell? ⟨gb264, 3, none⟩ = some (.slice A0_3 l0_3.length c0_3) := (blk_cell BK264.out 3).trans rfl; have hcz4_4 : w3.cell? ⟨gb264, 4, none⟩ = some (.slice A0_4 l0_4.length c0_4) := (blk_cell BK264.out 4).trans rfl; have hfz4_0 := blk_frozen BK264.out 0; have hfz4_1 := blk_frozen BK264.out 1; have hfz4_2 := blk_frozen BK264.out 2; have hfz4_3 := blk_frozen BK264.out 3; have hfz4_4 := blk_frozen BK264.out 4) | ((with_reducible refine gate_callee (f := 54) rfl ?_); refine goesL_ (some 4) rfl rfl Try.func54 (by kernel_rfl) rfl #[.agg #[.int .i64 a0_0, .string a0_1, .int .i64 a0_2, .slice A0_3 l0_3.length c0_3, .slice A0_4 l0_4.length c0_4], .int .i64 6] rfl (by (try simp only [List.map_toArray, List.map_cons, List.map_nil]); first | done | rfl | (simp only [List.length_drop, List.length_take]; rfl)) ?_; (with_reducible refine (spec_l4Look.calls k a0_0 a0_1 a0_2 _ _ l0_3 _ _ l0_4 6 t265 _ ?side1 ?side2 ?side3 ?side4 A2.out).mono ?_); (case side1 => repeat (first | exact (Kd.C_below HR0_3.out HB.out) | (with_reducible refine Kd.C_alloc ?_ _) | (with_reducible refine Kd.C_drewN ?_ _) | (with_reducible refine Kd.C_drew ?_))); (case side2 => exact HC0_3.out); (case side3 => repeat (first | exact (Kd.C_below HR0_4.out HB.out) | (with_reducible refine Kd.C_alloc ?_ _) | (with_reducible refine Kd.C_drewN ?_ _) | (with_reducible refine Kd.C_drew ?_))); (case side4 => exact HC0_4.out); rintro e w5 ⟨rfl, hb⟩; refine ⟨_, rfl, ?_⟩; have n0_ := Aside0.mk (blk_below (g := gb264) (o := .cells #[.int .i64 a0_0, .string a0_1, .int .i64 a0_2, .slice A0_3 l0_3.length c0_3, .slice A0_4 l0_4.length c0_4] 30 (0, 0)) (by (with_reducible repeat (first | refine blk_drewN ?_ _ | refine blk_drew ?_ | refine blk_alloc ?_ _)); exact BK264.out) hb); have n1_ := Aside0.mk (below_step (by repeat (first | (with_reducible first | exact HB.out | apply below_alloc | apply pw_below_drewN | apply below_drew1 | refine below_set ?_ GE264.out) | exact HB.out)) hb); clear BK264; clear HB; have BK264 := n0_; have HB := n1_; clear n0_ n1_; (try clear hb); (try clear hb2); (try clear hk); (try clear hi)))
  go_ret
  exact ⟨by first | rfl | (simp [errW_none, errW_some] <;> rfl) | (simp [*, errW_none, errW_some] <;> rfl), by repeat (first | (with_reducible first | exact HB.out | apply below_alloc | apply pw_below_drewN | apply below_drew1 | refine below_set ?_ GE264.out) | exact HB.out)⟩

end Go.Proofs.Ytchhognpijobcaa.G
