import Derived.Test.YtpjpnppoejnafaaDoorMFnExactParseSelectorCard1
import Derived.Test.YtpjpnppoejnafaaDoorMFnExactParseSelectorCard2
import Derived.Test.YtpjpnppoejnafaaDoorShelf
/- PTermB -/
/-
  Terms and selectors that are right.
-/
namespace Go.Proofs.YtpjpnppoejnafaaDoor.G
open Go.RowKit Go.Proofs.YtpjpnppoejnafaaDoorW.PrintWords Go.Proofs.YtpjpnppoejnafaaDoorW.PrintLast Go.Proofs.YtpjpnppoejnafaaDoorW.PrintMore
set_option linter.unusedVariables false
set_option linter.unusedSimpArgs false
abbrev ITerm := S59
theorem rdIT {xs : List ITerm} {i : Nat} (h : i < xs.length) : rd_T59 xs (i : Int) = xs[i] := by unfold rd_T59; rw [Int.toNat_natCast]; exact getD_at h _
/-! ### terms and selectors that are right -/
def kindB (kind : Int) (n : Int) : Bool := if kind = 1 ∨ kind = 2 then n == 1 else if kind = 3 then inB n 1 6 else if kind = 4 ∨ kind = 5 then n == 0 else false
def wfITerm (x : ITerm) : Prop := x.f1.size ≤ 9223372036854775807 ∧ wfStrs x.f2
def termB (x : ITerm) : Bool := namsB x.f2 && (nameB x.f1 && kindB x.f0 x.f2.length)
theorem kindB_le {kind n : Int} (h : kindB kind n = true) : n ≤ 6 := by
  unfold kindB at h
  split at h
  · simp at h; omega
  · split at h
    · have := inB_true h; omega
    · split at h
      · simp at h; omega
      · cases h
theorem kindB_12 {k n : Int} (h : k = 1 ∨ k = 2) : kindB k n = (n == 1) := by unfold kindB; rw [if_pos h]
theorem kindB_3 {k n : Int} (h : k = 3) : kindB k n = inB n 1 6 := by unfold kindB; rw [if_neg (by omega), if_pos h]
theorem kindB_45 {k n : Int} (h : k = 4 ∨ k = 5) : kindB k n = (n == 0) := by unfold kindB; rw [if_neg (by omega), if_neg (by omega), if_pos h]
theorem kindB_no {k n : Int} (h : ¬ (k = 1 ∨ k = 2)) (h' : k ≠ 3) (h'' : ¬ (k = 4 ∨ k = 5)) : kindB k n = false := by unfold kindB; rw [if_neg h, if_neg h', if_neg h'']
theorem l2Term_ev (x : ITerm) (h : wfITerm x) : Ev (fun k => spec_l2Term.f k x.f0 x.f1 x.f2) (termB x) := by
  obtain ⟨hk, hv⟩ := h
  unfold spec_l2Term.f termB namsB
  refine loop_all (g := fun k i => spec_l2Term.l0 k x.f2.length i x.f0 x.f1 x.f2) x.f2.length _ _ ?_ ?_ ?_
  · intro i hi hok r hr
    refine Ev.step (fun k => by rw [spec_l2Term.l0]) ?_
    simp only [wsucc hi hv.1]
    refine ev_if_pos (by omega) (ev_if_pos (by omega) (ev_if_pos (by omega) (Ev.bind (specNameOk_ev _ (wfStrs_at hv hi)) (ev_if_pos (namOk_name hok) (ev_if (fun c => ?_) (fun c => hr))))))
    simp only [wpred (by omega : 0 < i) hi hv.1]
    exact ev_if_pos (by omega) (ev_if_pos (by omega) (ev_if_pos (namOk_less hok (by omega)) hr))
  · intro i hi hok
    refine Ev.step (fun k => by rw [spec_l2Term.l0]) ?_
    refine ev_if_pos (by omega) (ev_if_pos (by omega) (ev_if_pos (by omega) (Ev.bind (specNameOk_ev _ (wfStrs_at hv hi)) (ev_if (fun c0 => ?_) (fun _ => Ev.now _)))))
    obtain ⟨h0, hl⟩ := namOk_false hok c0
    simp only [wpred h0 hi hv.1]
    exact ev_if_pos (by omega) (ev_if_pos (by omega) (ev_if_pos (by omega) (ev_if_neg (by rw [hl]; simp) (Ev.now _))))
  · refine Ev.step (fun k => by rw [spec_l2Term.l0]) (ev_if_neg (by omega) (Ev.bind (specNameOk_ev _ hk) ?_))
    cases hn : nameB x.f1 with
    | false => exact ev_if_neg (by simp) (Ev.now _)
    | true =>
      rw [Bool.true_and]
      refine ev_if_pos rfl ?_
      have key : ∀ b : Bool, b = (x.f0 == 1 || x.f0 == 2) → Ev (fun k => spec_l2Term.j1 k x.f2.length x.f0 b) (kindB x.f0 x.f2.length) := by
        intro b hb
        refine Ev.step (fun k => by rw [spec_l2Term.j1]) ?_
        by_cases c : x.f0 = 1 ∨ x.f0 = 2
        · rw [kindB_12 c]; exact ev_if_pos (by rw [hb]; simpa using c) (ev_some (by first | rfl | (rw [Bool.eq_iff_iff]; simp; done) | (rw [Bool.eq_iff_iff]; simp)))
        · refine ev_if_neg (by rw [hb]; simpa using c) ?_
          by_cases c3 : x.f0 = 3
          · rw [kindB_3 c3]; refine ev_if_pos c3 ?_; simp only [l1In_f, Option.bind_some]; exact Ev.now _
          · refine ev_if_neg c3 ?_
            by_cases c4 : x.f0 = 4
            · rw [kindB_45 (.inl c4)]; exact ev_if_pos c4 (ev_some (by first | rfl | (rw [Bool.eq_iff_iff]; simp; done) | (rw [Bool.eq_iff_iff]; simp)))
            · refine ev_if_neg c4 ?_
              by_cases c5 : x.f0 = 5
              · rw [kindB_45 (.inr c5)]; exact ev_if_pos c5 (ev_some (by first | rfl | (rw [Bool.eq_iff_iff]; simp; done) | (rw [Bool.eq_iff_iff]; simp)))
              · rw [kindB_no c c3 (by omega)]; exact ev_if_neg c5 (Ev.now _)
      exact ev_if (fun c => key _ (by simp [c])) (fun c => key _ (by simp [c]))
theorem names6 (x : ITerm) (hv : wfStrs x.f2) (hk : x.f1.size ≤ 9223372036854775807) (c : Bool) (hc : c = true → x.f2.length ≤ 6) (he : c = kindB x.f0 x.f2.length) :
    Ev (fun k => if c = true then (impl_NameOk.f k x.f1).bind fun t => (if t = true then ((impl_namesOk.f k x.f2 6).bind fun u => (some u)) else (some false)) else some false) (termB x) := by
  unfold termB
  rw [← he]
  cases c with
  | false => refine ev_if_neg (by simp) (ev_some (by simp))
  | true =>
    refine ev_if_pos rfl (Ev.bind (implNameOk_ev _ hk) ?_)
    cases nameB x.f1 with
    | false => exact ev_if_neg (by simp) (ev_some (by simp))
    | true => exact ev_if_pos rfl (Ev.bind (namesOk_ev _ 6 hv) (ev_some (by rw [decide_eq_true (by have := hc rfl; omega)]; simp)))
theorem termOk_ev (x : ITerm) (h : wfITerm x) : Ev (fun k => impl_termOk.f k x.f0 x.f1 x.f2) (termB x) := by
  obtain ⟨hk, hv⟩ := h
  have fin : ∀ (p : Prop) [Decidable p], (p ↔ kindB x.f0 x.f2.length = true) → Ev (fun k => if p then (impl_NameOk.f k x.f1).bind fun t => (if t = true then ((impl_namesOk.f k x.f2 6).bind fun u => (some u)) else (some false)) else some false) (termB x) := by
    intro p _ hp
    have := names6 x hv hk (decide p) (fun hc => by have := kindB_le (hp.1 (of_decide_eq_true hc)); omega) (by rw [Bool.eq_iff_iff, decide_eq_true_iff]; exact hp)
    simpa only [decide_eq_true_eq] using this
  have no : kindB x.f0 x.f2.length = false → termB x = false := by intro h; unfold termB; rw [h]; simp
  have j1 : ∀ b : Bool, b = (x.f0 == 4 || x.f0 == 5) → ¬ (x.f0 = 1 ∨ x.f0 = 2) → x.f0 ≠ 3 → Ev (fun k => impl_termOk.j1 k x.f2.length false b x.f0 x.f1 x.f2) (termB x) := by
    intro b hb c1 c3
    refine Ev.step (fun k => by rw [impl_termOk.j1]) ?_
    cases b with
    | true =>
      refine ev_if_pos rfl (fin _ ?_)
      rw [kindB_45 (by simpa using hb.symm)]; simp
    | false =>
      refine ev_if_neg (by simp) (ev_if_neg (by simp) (ev_some (no ?_).symm))
      exact kindB_no c1 c3 (by simpa using hb.symm)
  have j0 : ∀ b : Bool, b = (x.f0 == 1 || x.f0 == 2) → Ev (fun k => impl_termOk.j0 k x.f2.length false x.f0 b x.f0 x.f1 x.f2) (termB x) := by
    intro b hb
    refine Ev.step (fun k => by rw [impl_termOk.j0]) ?_
    cases b with
    | true =>
      refine ev_if_pos rfl (fin _ ?_)
      rw [kindB_12 (by simpa using hb.symm)]; simp
    | false =>
      have c1 : ¬ (x.f0 = 1 ∨ x.f0 = 2) := by simpa using hb.symm
      refine ev_if_neg (by simp) ?_
      by_cases c3 : x.f0 = 3
      · refine ev_if_pos c3 ?_
        by_cases c6 : x.f2.length ≤ 6
        · refine fin _ ?_
          rw [kindB_3 c3]; unfold inB; rw [decide_eq_true_iff]; omega
        · have hno : termB x = false := no (by rw [kindB_3 c3]; unfold inB; rw [decide_eq_false_iff_not]; omega)
          rw [hno]
          refine ev_if_pos (by omega) (Ev.bind (implNameOk_ev _ hk) (ev_if (fun _ => Ev.bind (namesOk_ev _ 6 hv) (ev_some ?_)) (fun _ => Ev.now _)))
          rw [decide_eq_false (by omega : ¬ ((x.f2.length : Int) ≤ 6)), Bool.and_false]
      · refine ev_if_neg c3 ?_
        exact ev_if (fun c => j1 _ (by simp [c]) c1 c3) (fun c => j1 _ (by simp [c]) c1 c3)
  unfold impl_termOk.f
  exact ev_if (fun c => j0 _ (by simp [c])) (fun c => j0 _ (by simp [c]))
def wfITerms (xs : List ITerm) : Prop := xs.length ≤ 9223372036854775807 ∧ ∀ x ∈ xs, wfITerm x
def selB (xs : List ITerm) : Bool := allN xs.length (fun i => termB (rd_T59 xs i)) && decide ((xs.length : Int) ≤ 8)
theorem specSelectorOk_ev (xs : List ITerm) (h : wfITerms xs) : Ev (fun k => spec_SelectorOk.f k xs) (selB xs) := by
  unfold spec_SelectorOk.f selB
  refine loop_all (g := fun k i => spec_SelectorOk.l0 k xs i) xs.length _ _ ?_ ?_ ?_
  · intro i hi hok r hr
    refine Ev.step (fun k => by rw [spec_SelectorOk.l0]) ?_
    simp only [wsucc hi h.1]
    exact ev_if_pos (by omega) (ev_if_pos (by omega) (Ev.bind (l2Term_ev _ (by rw [rdIT hi]; exact h.2 _ (List.getElem_mem hi))) (ev_if_pos hok hr)))
  · intro i hi hok
    refine Ev.step (fun k => by rw [spec_SelectorOk.l0]) ?_
    exact ev_if_pos (by omega) (ev_if_pos (by omega) (Ev.bind (l2Term_ev _ (by rw [rdIT hi]; exact h.2 _ (List.getElem_mem hi))) (ev_if_neg (by rw [hok]; simp) (Ev.now _))))
  · exact Ev.step (fun k => by rw [spec_SelectorOk.l0]) (ev_if_neg (by omega) (Ev.now _))
/-- A search by a test that is answered: from some number of rounds on. -/
theorem idxO_ev {α : Type} {p : Nat → α → Option Bool} {q : α → Bool} : ∀ (l : List α) (i : Nat), (∀ x ∈ l, Ev (fun k => p k x) (q x)) → ∃ r, Ev (fun k => idxO (p k) l i) r ∧ (decide (0 ≤ r) = l.any q)
  | [], i, _ => ⟨-1, Ev.now _, by simp⟩
  | x :: xs, i, h => by
    have hx := h x (by simp)
    cases hq : q x with
    | true =>
      rw [hq] at hx
      exact ⟨i, Ev.congr (fun k => by rw [idxO]) (Ev.bind (f := fun k t => if t = true then some (i : Int) else idxO (p k) xs (i + 1)) hx (ev_if_pos rfl (Ev.now _))), by rw [List.any_cons, hq, Bool.true_or]; exact decide_eq_true (by omega)⟩
    | false =>
      rw [hq] at hx
      obtain ⟨r, hr, he⟩ := idxO_ev xs (i + 1) (fun y hy => h y (by simp [hy]))
      exact ⟨r, Ev.congr (fun k => by rw [idxO]) (Ev.bind (f := fun k t => if t = true then some (i : Int) else idxO (p k) xs (i + 1)) hx (ev_if_neg Bool.false_ne_true hr)), by rw [List.any_cons, hq, Bool.false_or, he]⟩
theorem any_allN {α : Type} (xs : List α) (q : α → Bool) (rd : Nat → α) (hrd : ∀ i (h : i < xs.length), rd i = xs[i]) : (!xs.any (fun x => !q x)) = allN xs.length (fun i => q (rd i)) := by
  rw [Bool.eq_iff_iff, allN_true]
  simp only [Bool.not_eq_true', List.any_eq_false]
  constructor
  · intro h i hi
    rw [hrd i hi]
    simpa using h _ (List.getElem_mem hi)
  · intro h x hx
    obtain ⟨i, hi, rfl⟩ := List.getElem_of_mem hx
    have := h i hi
    rw [hrd i hi] at this
    simp [this]
theorem implSelectorOk_ev (xs : List ITerm) (h : wfITerms xs) : Ev (fun k => impl_SelectorOk.f k xs) (selB xs) := by
  unfold impl_SelectorOk.f selB
  by_cases hl : xs.length ≤ 8
  · rw [decide_eq_true (by omega), Bool.and_true]
    refine ev_if_pos hl ?_
    obtain ⟨r, hr, he⟩ := idxO_ev (p := fun k (x : ITerm) => impl_SelectorOk_1.f k x.f0 x.f1 x.f2) (q := fun x => !termB x) xs 0 (fun x hx => by
      unfold impl_SelectorOk_1.f
      exact Ev.bind (termOk_ev x (h.2 x hx)) (Ev.now _))
    refine Ev.bind hr (ev_some ?_)
    rw [he, any_allN xs termB (fun i => rd_T59 xs i) (fun i hi => rdIT hi)]
  · rw [decide_eq_false (by omega), Bool.and_false]
    exact ev_if_neg hl (Ev.now _)
end Go.Proofs.YtpjpnppoejnafaaDoor.G

/- G59 -/
-- Laid by wip/g/gprint.py out of the translation, by the kit's print program. Lean checks it.
namespace Go.Proofs.YtpjpnppoejnafaaDoor.G
open Go.RowKit Go.Proofs.YtpjpnppoejnafaaDoorW.PrintWords Go.Proofs.YtpjpnppoejnafaaDoorW.PrintLast Go.Proofs.YtpjpnppoejnafaaDoorW.PrintMore
attribute [local go_sem] max2_int min2_int max_two min_two max_three min_three max_four min_four   -- for this text's walks alone
set_option linter.unusedVariables false
set_option linter.unusedSimpArgs false

/-! ### strings_Join: function 59 -/
--IMPORT Derived.Test.YtpjpnppoejnafaaDoorShelf
def strings_Join.f (l0 : List ByteArray) (a1 : ByteArray) : Option ByteArray :=
  if l0.length ≤ 140737488355328 ∧ (Lib.join (l0.map (·.data.toList)) a1.data.toList).length ≤ 140737488355328 then some ⟨(Lib.join (l0.map (·.data.toList)) a1.data.toList).toArray⟩ else none
theorem strings_Join.calls (A0 : Option Addr) (c0 : Nat) (l0 : List ByteArray) (a1 : ByteArray) (r : ByteArray) (w : World) (hr0 : Kd.C Kd.string w A0 l0.length l0) (hc0 : l0.length ≤ c0) (h : strings_Join.f l0 a1 = some r) :
    Calls Tryd.prog 59 #[.slice A0 l0.length c0, .string a1] w fun e w' => e = .returned (.string r) ∧ Below w.heap.size w w' := by
  unfold strings_Join.f at h
  by_cases hl : l0.length ≤ 140737488355328 ∧ (Lib.join (l0.map (·.data.toList)) a1.data.toList).length ≤ 140737488355328
  · rw [if_pos hl] at h
    obtain rfl := Option.some.inj h
    rcases Nat.eq_zero_or_pos l0.length with h0 | h0
    · obtain rfl := List.eq_nil_of_length_eq_zero h0
      refine (Tryd.strings_Join_none A0 c0 a1 w).mono ?_
      rintro e w' ⟨rfl, rfl⟩
      exact ⟨rfl, Below.refl _ _⟩
    · obtain ⟨bk, o, rfl, hlt, hcells⟩ := C_cells (f := Value.string) (dflt := ByteArray.empty) (Kd.reads_of_C hr0) h0
      exact Tryd.strings_Join bk o c0 l0 a1 w hcells hlt hl.1 hc0 hl.2
  · rw [if_neg hl] at h
    cases h

end Go.Proofs.YtpjpnppoejnafaaDoor.G

/- PJoin -/
/-
  Joined strings: strings.Join, piece by piece.
-/
namespace Go.Proofs.YtpjpnppoejnafaaDoor.G
open Go.RowKit Go.Proofs.YtpjpnppoejnafaaDoorW.PrintWords Go.Proofs.YtpjpnppoejnafaaDoorW.PrintLast Go.Proofs.YtpjpnppoejnafaaDoorW.PrintMore
set_option linter.unusedVariables false
set_option linter.unusedSimpArgs false
def jn (xs : List ByteArray) (sep : ByteArray) : ByteArray := ⟨(Lib.join (xs.map (·.data.toList)) sep.data.toList).toArray⟩
theorem join_snoc (x s : List UInt8) : ∀ (ys : List (List UInt8)), Lib.join (ys ++ [x]) s = if ys = [] then x else Lib.join ys s ++ s ++ x
  | [] => by rw [if_pos rfl]; exact Lib.join_one x s
  | y :: ys => by
    rw [if_neg (by simp), List.cons_append, Lib.join_cons, Lib.join_cons]
    simp [Lib.joinTail, List.append_assoc]
theorem ba_eq {a b : ByteArray} (h : a.data.toList = b.data.toList) : a = b := by
  cases a; cases b; simp only at h; congr 1; exact Array.toList_inj.1 h
theorem jn_snoc (ys : List ByteArray) (x s : ByteArray) (h : ys ≠ []) : jn (ys ++ [x]) s = jn ys s ++ s ++ x := by
  apply ba_eq
  unfold jn
  rw [List.map_append, List.map_cons, List.map_nil, join_snoc, if_neg (by simpa using h)]
  simp [ByteArray.data_append]
theorem jn_one (x s : ByteArray) : jn [x] s = x := by
  apply ba_eq
  unfold jn
  rw [List.map_cons, List.map_nil, Lib.join_one]
theorem jn_nil (s : ByteArray) : jn [] s = ⟨#[]⟩ := rfl
theorem jn_size (s : ByteArray) (m : Nat) (hs : s.size ≤ m) : ∀ (xs : List ByteArray) (b : Nat), (∀ x ∈ xs, x.size ≤ b) → (jn xs s).size ≤ xs.length * (b + m) := by
  intro xs b h
  have key : ∀ n, ∀ ys : List ByteArray, ys.length = n → (∀ x ∈ ys, x.size ≤ b) → (jn ys s).size ≤ n * (b + m) := by
    intro n
    induction n with
    | zero => intro ys h0 _; obtain rfl := List.eq_nil_of_length_eq_zero h0; simp [jn_nil, ByteArray.size]
    | succ n ih =>
      intro ys hl hb
      obtain ⟨zs, z, rfl⟩ : ∃ zs z, ys = zs ++ [z] := ⟨ys.dropLast, ys.getLast (by intro h; rw [h] at hl; simp at hl), (List.dropLast_concat_getLast _).symm⟩
      have hzl : zs.length = n := by simpa using hl
      have hz := hb z (by simp)
      have e : (n + 1) * (b + m) = n * (b + m) + (b + m) := Nat.succ_mul _ _
      rcases List.eq_nil_or_concat zs with h0 | ⟨_, _, h0⟩
      · subst h0; rw [List.nil_append, jn_one]; omega
      · rw [jn_snoc zs z s (by rw [h0]; simp), ByteArray.size_append, ByteArray.size_append]
        have := ih zs hzl (fun x hx => hb x (by simp [hx]))
        omega
  exact key _ xs rfl h
theorem join_f (xs : List ByteArray) (s : ByteArray) (h : xs.length ≤ 140737488355328) (h' : (jn xs s).size ≤ 140737488355328) : strings_Join.f xs s = some (jn xs s) := by
  unfold strings_Join.f
  have e : (Lib.join (xs.map (·.data.toList)) s.data.toList).length = (jn xs s).size := by unfold jn ByteArray.size; simp
  rw [if_pos ⟨h, by rw [e]; exact h'⟩]; rfl
/-- A loop that writes the pieces behind a start, with a sign between them. -/
theorem jn_take_succ (xs : List ByteArray) (s a : ByteArray) {i : Nat} (hi : i < xs.length) : a ++ jn (xs.take (i + 1)) s = if 0 < i then (a ++ jn (xs.take i) s) ++ s ++ xs[i] else a ++ xs[i] := by
  rw [List.take_succ_eq_append_getElem hi]
  by_cases c : 0 < i
  · rw [if_pos c, jn_snoc _ _ _ (by intro h; have := congrArg List.length h; rw [List.length_take, List.length_nil] at this; omega)]
    simp only [ByteArray.append_assoc]
  · obtain rfl : i = 0 := by omega
    rw [if_neg (by omega), List.take_zero, List.nil_append, jn_one]
end Go.Proofs.YtpjpnppoejnafaaDoor.G

/- G28 -/
-- Laid by wip/g/gprint.py out of the translation, by the kit's print program. Lean checks it.
namespace Go.Proofs.YtpjpnppoejnafaaDoor.G
open Go.RowKit Go.Proofs.YtpjpnppoejnafaaDoorW.PrintWords Go.Proofs.YtpjpnppoejnafaaDoorW.PrintLast Go.Proofs.YtpjpnppoejnafaaDoorW.PrintMore
attribute [local go_sem] max2_int min2_int max_two min_two max_three min_three max_four min_four   -- for this text's walks alone
set_option linter.unusedVariables false
set_option linter.unusedSimpArgs false

/-! ### impl_SelectorText: function 28 -/
def impl_SelectorText.l0 : Nat → List ByteArray → List (S59) → Int → Int → Option (ByteArray)
  | 0, _, _, _, _ => none
  | k + 1, x3, x12, x13, x14 => if x14 < x13 then (if 0 ≤ x14 then (if x14 < (x12.length : Int) then ((strings_Join.f ((rd_T59 x12 x14).f2) (⟨#[32]⟩ : ByteArray)).bind fun t283 => (if ((rd_T59 x12 x14).f0) = 1 then (if 1 + t283.size ≤ 9223372036854775807 then (if ((rd_T59 x12 x14).f1).size + ((⟨#[61]⟩ : ByteArray) ++ t283).size ≤ 9223372036854775807 then (if x3.length < 8796093022208 then (impl_SelectorText.l0 k (x3 ++ [((rd_T59 x12 x14).f1) ++ ((⟨#[61]⟩ : ByteArray) ++ t283)]) x12 x13 (wrap64 (x14 + 1))) else (none)) else (none)) else (none)) else (if ((rd_T59 x12 x14).f0) = 2 then (if 2 + t283.size ≤ 9223372036854775807 then (if ((rd_T59 x12 x14).f1).size + ((⟨#[33, 61]⟩ : ByteArray) ++ t283).size ≤ 9223372036854775807 then (if x3.length < 8796093022208 then (impl_SelectorText.l0 k (x3 ++ [((rd_T59 x12 x14).f1) ++ ((⟨#[33, 61]⟩ : ByteArray) ++ t283)]) x12 x13 (wrap64 (x14 + 1))) else (none)) else (none)) else (none)) else (if ((rd_T59 x12 x14).f0) = 3 then (if 5 + t283.size ≤ 9223372036854775807 then (if ((⟨#[32, 105, 110, 32, 40]⟩ : ByteArray) ++ t283).size + 1 ≤ 9223372036854775807 then (if ((rd_T59 x12 x14).f1).size + (((⟨#[32, 105, 110, 32, 40]⟩ : ByteArray) ++ t283) ++ (⟨#[41]⟩ : ByteArray)).size ≤ 9223372036854775807 then (if x3.length < 8796093022208 then (impl_SelectorText.l0 k (x3 ++ [((rd_T59 x12 x14).f1) ++ (((⟨#[32, 105, 110, 32, 40]⟩ : ByteArray) ++ t283) ++ (⟨#[41]⟩ : ByteArray))]) x12 x13 (wrap64 (x14 + 1))) else (none)) else (none)) else (none)) else (none)) else (if ((rd_T59 x12 x14).f0) = 5 then (if 1 + ((rd_T59 x12 x14).f1).size ≤ 9223372036854775807 then (if x3.length < 8796093022208 then (impl_SelectorText.l0 k (x3 ++ [(⟨#[33]⟩ : ByteArray) ++ ((rd_T59 x12 x14).f1)]) x12 x13 (wrap64 (x14 + 1))) else (none)) else (none)) else (if x3.length < 8796093022208 then (impl_SelectorText.l0 k (x3 ++ [(rd_T59 x12 x14).f1]) x12 x13 (wrap64 (x14 + 1))) else (none))))))) else (none)) else (none)) else ((strings_Join.f x3 (⟨#[44]⟩ : ByteArray)).bind fun t280 => (some t280))
def impl_SelectorText.f (k : Nat) (l0 : List (S59)) : Option (ByteArray) := (impl_SelectorOk.f k l0).bind fun t276 => (if t276 = true then (impl_SelectorText.l0 k (([] : List ByteArray)) l0 (l0.length : Int) 0) else (some (⟨#[]⟩ : ByteArray)))
set_option maxHeartbeats 8000000 in
set_option maxRecDepth 100000 in
theorem impl_SelectorText.calls (k : Nat) (A0 : Option Addr) (c0 : Nat) (l0 : List (S59)) (r : ByteArray) (w : World) (hr0 : Kd.C k59 w A0 l0.length l0) (hc0 : l0.length ≤ c0) (h : impl_SelectorText.f k l0 = some r) :
    Calls Tryd.prog 28 #[.slice A0 l0.length c0] w fun e w' => e = .returned (.string r) ∧ Below w.heap.size w w' := by
  have hu59 := Tryd.underlying59
  have HR0 := Aside0.mk hr0
  have HC0 := Aside0.mk hc0
  clear hr0 hc0
  have HB := Aside0.mk (Below.refl w.heap.size w)
  have H : ((impl_SelectorOk.f k l0).bind fun t276 => (if t276 = true then (impl_SelectorText.l0 k (([] : List ByteArray)) l0 (l0.length : Int) 0) else (some (⟨#[]⟩ : ByteArray)))) = some r := h
  clear h
  replace H := Option.bind_eq_some_iff.mp H
  obtain ⟨t276, A20, H⟩ := H
  replace H : (if t276 = true then (impl_SelectorText.l0 k (([] : List ByteArray)) l0 (l0.length : Int) 0) else (some (⟨#[]⟩ : ByteArray))) = some r := H
  have A2 := Aside0.mk A20
  clear A20
  by_cases c3 : t276 = true
  · subst c3
    have H1 : (impl_SelectorText.l0 k (([] : List ByteArray)) l0 (l0.length : Int) 0) = some r := by rw [if_pos rfl] at H; exact H
    clear H
    have H := H1
    clear H1
    obtain ⟨y277, hy277⟩ : ∃ y_ : List ByteArray, y_ = (([] : List ByteArray)) := ⟨_, rfl⟩
    replace H : (impl_SelectorText.l0 k y277 l0 (l0.length : Int) 0) = some r := by first | (rw [hy277]; with_reducible exact H) | (have H2_ := (Option.bind_some _ _).symm.trans H; rw [hy277]; with_reducible exact H2_) | (have H2_ := (Option.bind_some _ _).symm.trans H; with_reducible exact H2_) | with_reducible exact H | (rw [hy277]; exact H) | exact H
    have Ny277 := Aside0.mk hy277
    clear hy277
    have H' := Aside0.mk H
    clear H
    go_enter Tryd.func28, Tryd.ntmps28
    go_wp2_with (first | ((with_reducible refine gate_callee (f := 30) rfl ?_); refine goesL_ (some 9) rfl rfl Tryd.func30 (by kernel_rfl) rfl #[.slice A0 l0.length c0] rfl (by (try simp only [List.map_toArray, List.map_cons, List.map_nil]); first | done | rfl | (simp only [List.length_drop, List.length_take]; rfl)) ?_; (with_reducible refine (impl_SelectorOk.calls k _ _ l0 true _ ?side1 ?side2 A2.out).mono ?_); (case side1 => repeat (first | exact HR0.out | (with_reducible refine Kd.C_alloc ?_ _) | (with_reducible refine Kd.C_drewN ?_ _) | (with_reducible refine Kd.C_drew ?_))); (case side2 => exact HC0.out); rintro e w4 ⟨rfl, hb⟩; refine ⟨_, rfl, ?_⟩; have n0_ := Aside0.mk (below_step (by repeat (first | (with_reducible first | exact HB.out | apply below_alloc | apply pw_below_drewN | apply below_drew1) | exact HB.out)) hb); clear HB; have HB := n0_; clear n0_; (try clear hb); (try clear hb2); (try clear hk); (try clear hi)) | ((with_reducible refine gate_dst (N := 11) rfl ?_); refine Kd.R_lit Kd.string _ 9 ?hg (N := 11) ?hd (xs := ([] : List ByteArray)) (inner := []) (ok := fun _ => True) (okp := fun _ => True) ?hr ?hp (fun _ hk => hk) trivial (Below.refl _ _) (Nat.le_refl _) (by simp) ?_; (case hd => rfl); (case hg => rfl); (case hr => first | (go_simp; done) | (go_simp; rfl)); (case hp => exact (Reps.none _ _)); intro v278 w5 ho6 hb hg_ hnew_; clear hg_ hnew_; (first | rw [← Ny277.out] at ho6 | (simp only [Int.reduceToNat] at ho6; rw [← Ny277.out] at ho6)); have n0_ := Aside0.mk (Kd.R_lower ho6 (below_size (by repeat (first | (with_reducible first | exact HB.out | apply below_alloc | apply pw_below_drewN | apply below_drew1) | exact HB.out)))); have n1_ := Aside0.mk (below_step (by repeat (first | (with_reducible first | exact HB.out | apply below_alloc | apply pw_below_drewN | apply below_drew1) | exact HB.out)) hb); clear HB; have HO279 := n0_; have HB := n1_; clear n0_ n1_; clear hb ho6))
    go_loopg [3, 14] k (fun kq v3 v14 w' => ∃ (x3_1 : List ByteArray) (x14_1 : Int), v14 = .int .i64 x14_1 ∧ Aside0 (impl_SelectorText.l0 kq x3_1 l0 (l0.length : Int) x14_1 = some r) ∧ Aside0 (kq ≤ k) ∧ Aside0 (Kd.R Kd.string 9 w' w.heap.size (fun _ => True) v3 x3_1) ∧ Aside0 (Below w.heap.size w w'))
    case atStart => exact ⟨(y277), (0), (by first | rfl | (simp; done) | (simp [*]; done)), H', ⟨Nat.le_refl _⟩, ⟨by (with_reducible repeat (first | apply Kd.R_alloc | apply Kd.R_drewN | apply Kd.R_drew)); exact HO279.out⟩, ⟨by repeat (first | (with_reducible first | exact HB.out | apply below_alloc | apply pw_below_drewN | apply below_drew1) | exact HB.out)⟩⟩
    case round =>
      clear H'
      try clear c2
      try clear p2
      try clear c3
      obtain ⟨x3_1, x14_1, rfl, HA, HK1, HO_3, HB⟩ := hrel
      cases gk with
      | zero => exact absurd HA.out (by simp [impl_SelectorText.l0])
      | succ k1 =>
        have H := HA.out
        clear HA
        simp only [impl_SelectorText.l0] at H
        by_cases c7 : x14_1 < (l0.length : Int)
        · rw [if_pos c7] at H
          have c7b0 : decide (x14_1 < (l0.length : Int)) = true := decide_eq_true c7
          clear c7
          by_cases c8 : 0 ≤ x14_1
          · rw [if_pos c8] at H
            have c8b0 : decide (0 ≤ x14_1) = true := decide_eq_true c8
            clear c8
            by_cases c9 : x14_1 < (l0.length : Int)
            · rw [if_pos c9] at H
              have c9b0 : decide (x14_1 < (l0.length : Int)) = true := decide_eq_true c9
              clear c9
              replace H := Option.bind_eq_some_iff.mp H
              obtain ⟨t283, A100, H⟩ := H
              replace H : (if ((rd_T59 l0 x14_1).f0) = 1 then (if 1 + t283.size ≤ 9223372036854775807 then (if ((rd_T59 l0 x14_1).f1).size + ((⟨#[61]⟩ : ByteArray) ++ t283).size ≤ 9223372036854775807 then (if x3_1.length < 8796093022208 then (impl_SelectorText.l0 k1 (x3_1 ++ [((rd_T59 l0 x14_1).f1) ++ ((⟨#[61]⟩ : ByteArray) ++ t283)]) l0 (l0.length : Int) (wrap64 (x14_1 + 1))) else (none)) else (none)) else (none)) else (if ((rd_T59 l0 x14_1).f0) = 2 then (if 2 + t283.size ≤ 9223372036854775807 then (if ((rd_T59 l0 x14_1).f1).size + ((⟨#[33, 61]⟩ : ByteArray) ++ t283).size ≤ 9223372036854775807 then (if x3_1.length < 8796093022208 then (impl_SelectorText.l0 k1 (x3_1 ++ [((rd_T59 l0 x14_1).f1) ++ ((⟨#[33, 61]⟩ : ByteArray) ++ t283)]) l0 (l0.length : Int) (wrap64 (x14_1 + 1))) else (none)) else (none)) else (none)) else (if ((rd_T59 l0 x14_1).f0) = 3 then (if 5 + t283.size ≤ 9223372036854775807 then (if ((⟨#[32, 105, 110, 32, 40]⟩ : ByteArray) ++ t283).size + 1 ≤ 9223372036854775807 then (if ((rd_T59 l0 x14_1).f1).size + (((⟨#[32, 105, 110, 32, 40]⟩ : ByteArray) ++ t283) ++ (⟨#[41]⟩ : ByteArray)).size ≤ 9223372036854775807 then (if x3_1.length < 8796093022208 then (impl_SelectorText.l0 k1 (x3_1 ++ [((rd_T59 l0 x14_1).f1) ++ (((⟨#[32, 105, 110, 32, 40]⟩ : ByteArray) ++ t283) ++ (⟨#[41]⟩ : ByteArray))]) l0 (l0.length : Int) (wrap64 (x14_1 + 1))) else (none)) else (none)) else (none)) else (none)) else (if ((rd_T59 l0 x14_1).f0) = 5 then (if 1 + ((rd_T59 l0 x14_1).f1).size ≤ 9223372036854775807 then (if x3_1.length < 8796093022208 then (impl_SelectorText.l0 k1 (x3_1 ++ [(⟨#[33]⟩ : ByteArray) ++ ((rd_T59 l0 x14_1).f1)]) l0 (l0.length : Int) (wrap64 (x14_1 + 1))) else (none)) else (none)) else (if x3_1.length < 8796093022208 then (impl_SelectorText.l0 k1 (x3_1 ++ [(rd_T59 l0 x14_1).f1]) l0 (l0.length : Int) (wrap64 (x14_1 + 1))) else (none)))))) = some r := H
              have A10 := Aside0.mk A100
              clear A100
              by_cases c11 : ((rd_T59 l0 x14_1).f0) = 1
              · rw [if_pos c11] at H
                have c11b0 : (((rd_T59 l0 x14_1).f0) == 1) = true := beq_iff_eq.mpr c11
                have c11b1 : (((rd_T59 l0 x14_1).f0) != 1) = false := bne_eq_false_iff_eq.mpr c11
                clear c11
                by_cases c12 : 1 + t283.size ≤ 9223372036854775807
                · rw [if_pos c12] at H
                  have c12b0 := eq_true c12
                  have c12b1 : decide (1 + t283.size ≤ 9223372036854775807) = true := decide_eq_true c12
                  try have c12b2 : (9223372036854775807 < 1 + t283.size) = False := eq_false (Nat.not_lt.2 c12)
                  by_cases c13 : ((rd_T59 l0 x14_1).f1).size + ((⟨#[61]⟩ : ByteArray) ++ t283).size ≤ 9223372036854775807
                  · rw [if_pos c13] at H
                    have c13b0 := eq_true c13
                    have c13b1 : decide (((rd_T59 l0 x14_1).f1).size + ((⟨#[61]⟩ : ByteArray) ++ t283).size ≤ 9223372036854775807) = true := decide_eq_true c13
                    try have c13b2 : (9223372036854775807 < ((rd_T59 l0 x14_1).f1).size + ((⟨#[61]⟩ : ByteArray) ++ t283).size) = False := eq_false (Nat.not_lt.2 c13)
                    by_cases c14 : x3_1.length < 8796093022208
                    · rw [if_pos c14] at H
                      have LMc14 := Aside0.mk c14
                      clear c14
                      obtain ⟨y284, hy284⟩ : ∃ y_ : List ByteArray, y_ = (x3_1 ++ [((rd_T59 l0 x14_1).f1) ++ ((⟨#[61]⟩ : ByteArray) ++ t283)]) := ⟨_, rfl⟩
                      replace H : (impl_SelectorText.l0 k1 y284 l0 (l0.length : Int) (wrap64 (x14_1 + 1))) = some r := by first | (rw [hy284]; with_reducible exact H) | (have H2_ := (Option.bind_some _ _).symm.trans H; rw [hy284]; with_reducible exact H2_) | (have H2_ := (Option.bind_some _ _).symm.trans H; with_reducible exact H2_) | with_reducible exact H | (rw [hy284]; exact H) | exact H
                      have Ny284 := Aside0.mk hy284
                      clear hy284
                      have H' := Aside0.mk H
                      clear H
                      have p281 : 0 ≤ (x14_1 : Int) := of_decide_eq_true (by first | (with_reducible assumption) | assumption)
                      have q281 : x14_1 < (l0.length : Int) := of_decide_eq_true (by first | (with_reducible assumption) | assumption)
                      obtain ⟨ad281, A281_2, c281_2, e281, hx281_0, hx281_1, hx281_2, hl281_2, hi281_2⟩ := at_T59 HR0.out x14_1 p281 q281
                      cases e281
                      replace hx281_0 := (HB.out.cell (World.block_lt_of_cell? w _ hx281_0)).trans hx281_0
                      replace hx281_1 := (HB.out.cell (World.block_lt_of_cell? w _ hx281_1)).trans hx281_1
                      replace hx281_2 := (HB.out.cell (World.block_lt_of_cell? w _ hx281_2)).trans hx281_2
                      have HR281_2 := Aside0.mk hi281_2
                      have HC281_2 := Aside0.mk hl281_2
                      clear hi281_2 hl281_2
                      replace p281 := eq_true p281
                      replace q281 := eq_true q281
                      go_wp2_with (first | ((with_reducible refine gate_dst (N := 5) rfl ?_); refine box_event ?hg (N := 5) ?hd (cs := #[.int .i64 0, .string (⟨#[]⟩ : ByteArray), .slice none 0 0]) (t := 59) ?hr ?_; (case hd => rfl); (case hg => rfl); (case hr => first | (go_simp; done) | (go_simp; rfl)); intro gb282 hg w15 hbox hb; have n0_ := Aside0.mk (Kd.R_below (by (with_reducible repeat (first | apply Kd.R_alloc | apply Kd.R_drewN | apply Kd.R_drew)); exact HO_3.out) hb); have n1_ := Aside0.mk (below_step (by repeat (first | (with_reducible first | exact HB.out | apply below_alloc | apply pw_below_drewN | apply below_drew1) | exact HB.out)) hb); have n2_ := Aside0.mk (hbox); have n3_ := Aside0.mk ((by rw [hg]; exact (below_size (by repeat (first | (with_reducible first | exact HB.out | apply below_alloc | apply pw_below_drewN | apply below_drew1) | exact HB.out))) : w.heap.size ≤ gb282)); have n4_ := Aside0.mk ((by rw [hg]; exact (below_size (by repeat (first | (with_reducible first | exact HB.out | apply below_alloc | apply pw_below_drewN | apply below_drew1) | exact HB.out))) : w.heap.size ≤ gb282)); clear HO_3; clear HB; have HO_3 := n0_; have HB := n1_; have BK282 := n2_; have GW282 := n3_; have GE282 := n4_; clear n0_ n1_ n2_ n3_ n4_; clear hb hbox hg; have hcz16_0 : w15.cell? ⟨gb282, 0, none⟩ = some (.int .i64 0) := (blk_cell BK282.out 0).trans rfl; have hcz16_1 : w15.cell? ⟨gb282, 1, none⟩ = some (.string (⟨#[]⟩ : ByteArray)) := (blk_cell BK282.out 1).trans rfl; have hcz16_2 : w15.cell? ⟨gb282, 2, none⟩ = some (.slice none 0 0) := (blk_cell BK282.out 2).trans rfl; have hfz16_0 := blk_frozen BK282.out 0; have hfz16_1 := blk_frozen BK282.out 1; have hfz16_2 := blk_frozen BK282.out 2) | ((with_reducible refine gate_callee (f := 59) rfl ?_); refine goesL_ (some 20) rfl rfl Tryd.func59 (by kernel_rfl) rfl #[.slice A281_2 ((rd_T59 l0 x14_1).f2).length c281_2, .string (⟨#[32]⟩ : ByteArray)] rfl (by (try simp only [List.map_toArray, List.map_cons, List.map_nil]); first | done | rfl | (simp only [List.length_drop, List.length_take]; rfl)) ?_; (with_reducible refine (strings_Join.calls _ _ ((rd_T59 l0 x14_1).f2) (⟨#[32]⟩ : ByteArray) t283 _ ?side1 ?side2 A10.out).mono ?_); (case side1 => exact Kd.C_below HR281_2.out (by repeat (first | (with_reducible first | exact HB.out | apply below_alloc | apply pw_below_drewN | apply below_drew1 | refine below_set ?_ GE282.out) | exact HB.out))); (case side2 => exact HC281_2.out); rintro e w17 ⟨rfl, hb⟩; refine ⟨_, rfl, ?_⟩; have n0_ := Aside0.mk (Kd.R_below (by (with_reducible repeat (first | apply Kd.R_alloc | apply Kd.R_drewN | apply Kd.R_drew)); exact (Kd.R_mono (Kd.R_far (p := ⟨gb282, 2, none⟩) (Kd.R_far (p := ⟨gb282, 1, none⟩) (Kd.R_far (p := ⟨gb282, 0, none⟩) (Kd.R_types HO_3.out BK282.out (by decide)) (fun _ hk => hk.2) (.int .i64 ((rd_T59 l0 x14_1).f0))) (fun _ hk => hk.2) (.string ((rd_T59 l0 x14_1).f1))) (fun _ hk => hk.2) (.slice A281_2 ((rd_T59 l0 x14_1).f2).length c281_2)) (fun _ h_ => h_.1))) hb); have n1_ := Aside0.mk (blk_below (g := gb282) (o := .cells #[.int .i64 ((rd_T59 l0 x14_1).f0), .string ((rd_T59 l0 x14_1).f1), .slice A281_2 ((rd_T59 l0 x14_1).f2).length c281_2] 59 (0, 0)) (by (with_reducible repeat (first | refine blk_drewN ?_ _ | refine blk_drew ?_ | refine blk_alloc ?_ _)); refine blk_put (cs := #[.int .i64 ((rd_T59 l0 x14_1).f0), .string ((rd_T59 l0 x14_1).f1), .slice none 0 0]) ?_ 2 _ rfl; (with_reducible repeat (first | refine blk_drewN ?_ _ | refine blk_drew ?_ | refine blk_alloc ?_ _)); refine blk_put (cs := #[.int .i64 ((rd_T59 l0 x14_1).f0), .string (⟨#[]⟩ : ByteArray), .slice none 0 0]) ?_ 1 _ rfl; (with_reducible repeat (first | refine blk_drewN ?_ _ | refine blk_drew ?_ | refine blk_alloc ?_ _)); refine blk_put (cs := #[.int .i64 0, .string (⟨#[]⟩ : ByteArray), .slice none 0 0]) ?_ 0 _ rfl; (with_reducible repeat (first | refine blk_drewN ?_ _ | refine blk_drew ?_ | refine blk_alloc ?_ _)); exact BK282.out) hb); have n2_ := Aside0.mk (below_step (by repeat (first | (with_reducible first | exact HB.out | apply below_alloc | apply pw_below_drewN | apply below_drew1 | refine below_set ?_ GE282.out) | exact HB.out)) hb); clear HO_3; clear BK282; clear HB; have HO_3 := n0_; have BK282 := n1_; have HB := n2_; clear n0_ n1_ n2_; (try clear hb); (try clear hb2); (try clear hk); (try clear hi); have hcz18_0 : w17.cell? ⟨gb282, 0, none⟩ = some (.int .i64 ((rd_T59 l0 x14_1).f0)) := (blk_cell BK282.out 0).trans rfl; have hcz18_1 : w17.cell? ⟨gb282, 1, none⟩ = some (.string ((rd_T59 l0 x14_1).f1)) := (blk_cell BK282.out 1).trans rfl; have hcz18_2 : w17.cell? ⟨gb282, 2, none⟩ = some (.slice A281_2 ((rd_T59 l0 x14_1).f2).length c281_2) := (blk_cell BK282.out 2).trans rfl; have hfz18_0 := blk_frozen BK282.out 0; have hfz18_1 := blk_frozen BK282.out 1; have hfz18_2 := blk_frozen BK282.out 2) | ((with_reducible refine gate_builtin (b := .append) (xs := #[.tmp 48, .tmp 50]) rfl ?_); at_builtin; refine Kd.R_append Kd.string (w0 := w) w.heap.size rfl (.tmp 48) (.tmp 50) 51 9 (.string ⟨#[]⟩) 16 rfl Tryd.underlying51 info9 rfl (by decide) (by omega) u3 x3_1 (((rd_T59 l0 x14_1).f1) ++ ((⟨#[61]⟩ : ByteArray) ++ t283)) [.string (((rd_T59 l0 x14_1).f1) ++ ((⟨#[61]⟩ : ByteArray) ++ t283))] (fun _ => True) (fun _ => False) rfl rfl ?aP (fun _ hk => hk.elim) ?aF ?aO ?aB ?aS ?aL ?_; (case aP => exact rfl); (case aB => exact (by repeat (first | (with_reducible first | exact HB.out | apply below_alloc | apply pw_below_drewN | apply below_drew1 | refine below_set ?_ GE282.out) | exact HB.out))); (case aF => exact (fun _ _ => trivial)); (case aO => exact (by (with_reducible repeat (first | apply Kd.R_alloc | apply Kd.R_drewN | apply Kd.R_drew)); exact HO_3.out)); (case aS => exact (below_size (by repeat (first | (with_reducible first | exact HB.out | apply below_alloc | apply pw_below_drewN | apply below_drew1 | refine below_set ?_ GE282.out) | exact HB.out)))); (case aL => have := LMc14.out; omega); intro v285 w19 ho hb hg hat; rw [← Ny284.out] at ho; have n0_ := Aside0.mk (blk_grown (g := gb282) (o := .cells #[.int .i64 ((rd_T59 l0 x14_1).f0), .string ((rd_T59 l0 x14_1).f1), .slice A281_2 ((rd_T59 l0 x14_1).f2).length c281_2] 59 (0, 0)) (by (with_reducible repeat (first | refine blk_drewN ?_ _ | refine blk_drew ?_ | refine blk_alloc ?_ _)); exact BK282.out) hg (Kd.R_ne HO_3.out BK282.out (by decide))); have n1_ := Aside0.mk (hb); have n2_ := Aside0.mk (ho); clear BK282; clear HB; clear HO_3; have BK282 := n0_; have HB := n1_; have HO286 := n2_; clear n0_ n1_ n2_; clear ho hb hg hat))
                      go_roundg k1
                      case measure => have := HK1.out; omega
                      case rel => exact ⟨(y284), (wrap64 (x14_1 + 1)), (by first | rfl | (simp; done) | (simp [*]; done)), H', ⟨by have := HK1.out; omega⟩, ⟨by (with_reducible repeat (first | apply Kd.R_alloc | apply Kd.R_drewN | apply Kd.R_drew)); exact HO286.out⟩, ⟨by repeat (first | (with_reducible first | exact HB.out | apply below_alloc | apply pw_below_drewN | apply below_drew1 | refine below_set ?_ GE282.out) | exact HB.out)⟩⟩
                    · rw [if_neg c14] at H
                      exact absurd H (by simp)
                  · rw [if_neg c13] at H
                    exact absurd H (by simp)
                · rw [if_neg c12] at H
                  exact absurd H (by simp)
              · rw [if_neg c11] at H
                have c11b0 : (((rd_T59 l0 x14_1).f0) == 1) = false := beq_eq_false_iff_ne.mpr c11
                have c11b1 : (((rd_T59 l0 x14_1).f0) != 1) = true := bne_iff_ne.mpr c11
                by_cases c20 : ((rd_T59 l0 x14_1).f0) = 2
                · rw [if_pos c20] at H
                  have c20b0 : (((rd_T59 l0 x14_1).f0) == 2) = true := beq_iff_eq.mpr c20
                  have c20b1 : (((rd_T59 l0 x14_1).f0) != 2) = false := bne_eq_false_iff_eq.mpr c20
                  clear c20
                  by_cases c21 : 2 + t283.size ≤ 9223372036854775807
                  · rw [if_pos c21] at H
                    have c21b0 := eq_true c21
                    have c21b1 : decide (2 + t283.size ≤ 9223372036854775807) = true := decide_eq_true c21
                    try have c21b2 : (9223372036854775807 < 2 + t283.size) = False := eq_false (Nat.not_lt.2 c21)
                    by_cases c22 : ((rd_T59 l0 x14_1).f1).size + ((⟨#[33, 61]⟩ : ByteArray) ++ t283).size ≤ 9223372036854775807
                    · rw [if_pos c22] at H
                      have c22b0 := eq_true c22
                      have c22b1 : decide (((rd_T59 l0 x14_1).f1).size + ((⟨#[33, 61]⟩ : ByteArray) ++ t283).size ≤ 9223372036854775807) = true := decide_eq_true c22
                      try have c22b2 : (9223372036854775807 < ((rd_T59 l0 x14_1).f1).size + ((⟨#[33, 61]⟩ : ByteArray) ++ t283).size) = False := eq_false (Nat.not_lt.2 c22)
                      by_cases c23 : x3_1.length < 8796093022208
                      · rw [if_pos c23] at H
                        have LMc23 := Aside0.mk c23
                        clear c23
                        obtain ⟨y287, hy287⟩ : ∃ y_ : List ByteArray, y_ = (x3_1 ++ [((rd_T59 l0 x14_1).f1) ++ ((⟨#[33, 61]⟩ : ByteArray) ++ t283)]) := ⟨_, rfl⟩
                        replace H : (impl_SelectorText.l0 k1 y287 l0 (l0.length : Int) (wrap64 (x14_1 + 1))) = some r := by first | (rw [hy287]; with_reducible exact H) | (have H2_ := (Option.bind_some _ _).symm.trans H; rw [hy287]; with_reducible exact H2_) | (have H2_ := (Option.bind_some _ _).symm.trans H; with_reducible exact H2_) | with_reducible exact H | (rw [hy287]; exact H) | exact H
                        have Ny287 := Aside0.mk hy287
                        clear hy287
                        have H' := Aside0.mk H
                        clear H
                        have p281 : 0 ≤ (x14_1 : Int) := of_decide_eq_true (by first | (with_reducible assumption) | assumption)
                        have q281 : x14_1 < (l0.length : Int) := of_decide_eq_true (by first | (with_reducible assumption) | assumption)
                        obtain ⟨ad281, A281_2, c281_2, e281, hx281_0, hx281_1, hx281_2, hl281_2, hi281_2⟩ := at_T59 HR0.out x14_1 p281 q281
                        cases e281
                        replace hx281_0 := (HB.out.cell (World.block_lt_of_cell? w _ hx281_0)).trans hx281_0
                        replace hx281_1 := (HB.out.cell (World.block_lt_of_cell? w _ hx281_1)).trans hx281_1
                        replace hx281_2 := (HB.out.cell (World.block_lt_of_cell? w _ hx281_2)).trans hx281_2
                        have HR281_2 := Aside0.mk hi281_2
                        have HC281_2 := Aside0.mk hl281_2
                        clear hi281_2 hl281_2
                        replace p281 := eq_true p281
                        replace q281 := eq_true q281
                        go_wp2_with (first | ((with_reducible refine gate_dst (N := 5) rfl ?_); refine box_event ?hg (N := 5) ?hd (cs := #[.int .i64 0, .string (⟨#[]⟩ : ByteArray), .slice none 0 0]) (t := 59) ?hr ?_; (case hd => rfl); (case hg => rfl); (case hr => first | (go_simp; done) | (go_simp; rfl)); intro gb282 hg w24 hbox hb; have n0_ := Aside0.mk (Kd.R_below (by (with_reducible repeat (first | apply Kd.R_alloc | apply Kd.R_drewN | apply Kd.R_drew)); exact HO_3.out) hb); have n1_ := Aside0.mk (below_step (by repeat (first | (with_reducible first | exact HB.out | apply below_alloc | apply pw_below_drewN | apply below_drew1) | exact HB.out)) hb); have n2_ := Aside0.mk (hbox); have n3_ := Aside0.mk ((by rw [hg]; exact (below_size (by repeat (first | (with_reducible first | exact HB.out | apply below_alloc | apply pw_below_drewN | apply below_drew1) | exact HB.out))) : w.heap.size ≤ gb282)); have n4_ := Aside0.mk ((by rw [hg]; exact (below_size (by repeat (first | (with_reducible first | exact HB.out | apply below_alloc | apply pw_below_drewN | apply below_drew1) | exact HB.out))) : w.heap.size ≤ gb282)); clear HO_3; clear HB; have HO_3 := n0_; have HB := n1_; have BK282 := n2_; have GW282 := n3_; have GE282 := n4_; clear n0_ n1_ n2_ n3_ n4_; clear hb hbox hg; have hcz25_0 : w24.cell? ⟨gb282, 0, none⟩ = some (.int .i64 0) := (blk_cell BK282.out 0).trans rfl; have hcz25_1 : w24.cell? ⟨gb282, 1, none⟩ = some (.string (⟨#[]⟩ : ByteArray)) := (blk_cell BK282.out 1).trans rfl; have hcz25_2 : w24.cell? ⟨gb282, 2, none⟩ = some (.slice none 0 0) := (blk_cell BK282.out 2).trans rfl; have hfz25_0 := blk_frozen BK282.out 0; have hfz25_1 := blk_frozen BK282.out 1; have hfz25_2 := blk_frozen BK282.out 2) | ((with_reducible refine gate_callee (f := 59) rfl ?_); refine goesL_ (some 20) rfl rfl Tryd.func59 (by kernel_rfl) rfl #[.slice A281_2 ((rd_T59 l0 x14_1).f2).length c281_2, .string (⟨#[32]⟩ : ByteArray)] rfl (by (try simp only [List.map_toArray, List.map_cons, List.map_nil]); first | done | rfl | (simp only [List.length_drop, List.length_take]; rfl)) ?_; (with_reducible refine (strings_Join.calls _ _ ((rd_T59 l0 x14_1).f2) (⟨#[32]⟩ : ByteArray) t283 _ ?side1 ?side2 A10.out).mono ?_); (case side1 => exact Kd.C_below HR281_2.out (by repeat (first | (with_reducible first | exact HB.out | apply below_alloc | apply pw_below_drewN | apply below_drew1 | refine below_set ?_ GE282.out) | exact HB.out))); (case side2 => exact HC281_2.out); rintro e w26 ⟨rfl, hb⟩; refine ⟨_, rfl, ?_⟩; have n0_ := Aside0.mk (Kd.R_below (by (with_reducible repeat (first | apply Kd.R_alloc | apply Kd.R_drewN | apply Kd.R_drew)); exact (Kd.R_mono (Kd.R_far (p := ⟨gb282, 2, none⟩) (Kd.R_far (p := ⟨gb282, 1, none⟩) (Kd.R_far (p := ⟨gb282, 0, none⟩) (Kd.R_types HO_3.out BK282.out (by decide)) (fun _ hk => hk.2) (.int .i64 ((rd_T59 l0 x14_1).f0))) (fun _ hk => hk.2) (.string ((rd_T59 l0 x14_1).f1))) (fun _ hk => hk.2) (.slice A281_2 ((rd_T59 l0 x14_1).f2).length c281_2)) (fun _ h_ => h_.1))) hb); have n1_ := Aside0.mk (blk_below (g := gb282) (o := .cells #[.int .i64 ((rd_T59 l0 x14_1).f0), .string ((rd_T59 l0 x14_1).f1), .slice A281_2 ((rd_T59 l0 x14_1).f2).length c281_2] 59 (0, 0)) (by (with_reducible repeat (first | refine blk_drewN ?_ _ | refine blk_drew ?_ | refine blk_alloc ?_ _)); refine blk_put (cs := #[.int .i64 ((rd_T59 l0 x14_1).f0), .string ((rd_T59 l0 x14_1).f1), .slice none 0 0]) ?_ 2 _ rfl; (with_reducible repeat (first | refine blk_drewN ?_ _ | refine blk_drew ?_ | refine blk_alloc ?_ _)); refine blk_put (cs := #[.int .i64 ((rd_T59 l0 x14_1).f0), .string (⟨#[]⟩ : ByteArray), .slice none 0 0]) ?_ 1 _ rfl; (with_reducible repeat (first | refine blk_drewN ?_ _ | refine blk_drew ?_ | refine blk_alloc ?_ _)); refine blk_put (cs := #[.int .i64 0, .string (⟨#[]⟩ : ByteArray), .slice none 0 0]) ?_ 0 _ rfl; (with_reducible repeat (first | refine blk_drewN ?_ _ | refine blk_drew ?_ | refine blk_alloc ?_ _)); exact BK282.out) hb); have n2_ := Aside0.mk (below_step (by repeat (first | (with_reducible first | exact HB.out | apply below_alloc | apply pw_below_drewN | apply below_drew1 | refine below_set ?_ GE282.out) | exact HB.out)) hb); clear HO_3; clear BK282; clear HB; have HO_3 := n0_; have BK282 := n1_; have HB := n2_; clear n0_ n1_ n2_; (try clear hb); (try clear hb2); (try clear hk); (try clear hi); have hcz27_0 : w26.cell? ⟨gb282, 0, none⟩ = some (.int .i64 ((rd_T59 l0 x14_1).f0)) := (blk_cell BK282.out 0).trans rfl; have hcz27_1 : w26.cell? ⟨gb282, 1, none⟩ = some (.string ((rd_T59 l0 x14_1).f1)) := (blk_cell BK282.out 1).trans rfl; have hcz27_2 : w26.cell? ⟨gb282, 2, none⟩ = some (.slice A281_2 ((rd_T59 l0 x14_1).f2).length c281_2) := (blk_cell BK282.out 2).trans rfl; have hfz27_0 := blk_frozen BK282.out 0; have hfz27_1 := blk_frozen BK282.out 1; have hfz27_2 := blk_frozen BK282.out 2) | ((with_reducible refine gate_builtin (b := .append) (xs := #[.tmp 48, .tmp 50]) rfl ?_); at_builtin; refine Kd.R_append Kd.string (w0 := w) w.heap.size rfl (.tmp 48) (.tmp 50) 51 9 (.string ⟨#[]⟩) 16 rfl Tryd.underlying51 info9 rfl (by decide) (by omega) u3 x3_1 (((rd_T59 l0 x14_1).f1) ++ ((⟨#[33, 61]⟩ : ByteArray) ++ t283)) [.string (((rd_T59 l0 x14_1).f1) ++ ((⟨#[33, 61]⟩ : ByteArray) ++ t283))] (fun _ => True) (fun _ => False) rfl rfl ?aP (fun _ hk => hk.elim) ?aF ?aO ?aB ?aS ?aL ?_; (case aP => exact rfl); (case aB => exact (by repeat (first | (with_reducible first | exact HB.out | apply below_alloc | apply pw_below_drewN | apply below_drew1 | refine below_set ?_ GE282.out) | exact HB.out))); (case aF => exact (fun _ _ => trivial)); (case aO => exact (by (with_reducible repeat (first | apply Kd.R_alloc | apply Kd.R_drewN | apply Kd.R_drew)); exact HO_3.out)); (case aS => exact (below_size (by repeat (first | (with_reducible first | exact HB.out | apply below_alloc | apply pw_below_drewN | apply below_drew1 | refine below_set ?_ GE282.out) | exact HB.out)))); (case aL => have := LMc23.out; omega); intro v288 w28 ho hb hg hat; rw [← Ny287.out] at ho; have n0_ := Aside0.mk (blk_grown (g := gb282) (o := .cells #[.int .i64 ((rd_T59 l0 x14_1).f0), .string ((rd_T59 l0 x14_1).f1), .slice A281_2 ((rd_T59 l0 x14_1).f2).length c281_2] 59 (0, 0)) (by (with_reducible repeat (first | refine blk_drewN ?_ _ | refine blk_drew ?_ | refine blk_alloc ?_ _)); exact BK282.out) hg (Kd.R_ne HO_3.out BK282.out (by decide))); have n1_ := Aside0.mk (hb); have n2_ := Aside0.mk (ho); clear BK282; clear HB; clear HO_3; have BK282 := n0_; have HB := n1_; have HO289 := n2_; clear n0_ n1_ n2_; clear ho hb hg hat))
                        go_roundg k1
                        case measure => have := HK1.out; omega
                        case rel => exact ⟨(y287), (wrap64 (x14_1 + 1)), (by first | rfl | (simp; done) | (simp [*]; done)), H', ⟨by have := HK1.out; omega⟩, ⟨by (with_reducible repeat (first | apply Kd.R_alloc | apply Kd.R_drewN | apply Kd.R_drew)); exact HO289.out⟩, ⟨by repeat (first | (with_reducible first | exact HB.out | apply below_alloc | apply pw_below_drewN | apply below_drew1 | refine below_set ?_ GE282.out) | exact HB.out)⟩⟩
                      · rw [if_neg c23] at H
                        exact absurd H (by simp)
                    · rw [if_neg c22] at H
                      exact absurd H (by simp)
                  · rw [if_neg c21] at H
                    exact absurd H (by simp)
                · rw [if_neg c20] at H
                  have c20b0 : (((rd_T59 l0 x14_1).f0) == 2) = false := beq_eq_false_iff_ne.mpr c20
                  have c20b1 : (((rd_T59 l0 x14_1).f0) != 2) = true := bne_iff_ne.mpr c20
                  by_cases c29 : ((rd_T59 l0 x14_1).f0) = 3
                  · rw [if_pos c29] at H
                    have c29b0 : (((rd_T59 l0 x14_1).f0) == 3) = true := beq_iff_eq.mpr c29
                    have c29b1 : (((rd_T59 l0 x14_1).f0) != 3) = false := bne_eq_false_iff_eq.mpr c29
                    clear c29
                    by_cases c30 : 5 + t283.size ≤ 9223372036854775807
                    · rw [if_pos c30] at H
                      have c30b0 := eq_true c30
                      have c30b1 : decide (5 + t283.size ≤ 9223372036854775807) = true := decide_eq_true c30
                      try have c30b2 : (9223372036854775807 < 5 + t283.size) = False := eq_false (Nat.not_lt.2 c30)
                      by_cases c31 : ((⟨#[32, 105, 110, 32, 40]⟩ : ByteArray) ++ t283).size + 1 ≤ 9223372036854775807
                      · rw [if_pos c31] at H
                        have c31b0 := eq_true c31
                        have c31b1 : decide (((⟨#[32, 105, 110, 32, 40]⟩ : ByteArray) ++ t283).size + 1 ≤ 9223372036854775807) = true := decide_eq_true c31
                        try have c31b2 : (9223372036854775807 < ((⟨#[32, 105, 110, 32, 40]⟩ : ByteArray) ++ t283).size + 1) = False := eq_false (Nat.not_lt.2 c31)
                        have c31z0 : ((⟨#[32, 105, 110, 32, 40]⟩ : ByteArray) ++ t283).size < 9223372036854775807 := by have h_ := c31; simp only [ByteArray.size_append] at h_ ⊢; first | omega | (simp only [ByteArray.size] at h_ ⊢; simp at h_ ⊢; omega)
                        have c31z0a := eq_true c31z0
                        have c31z0b := decide_eq_true c31z0
                        have c31z0c : (9223372036854775807 ≤ ((⟨#[32, 105, 110, 32, 40]⟩ : ByteArray) ++ t283).size) = False := eq_false (by omega)
                        have c31z1 : 5 + t283.size < 9223372036854775807 := by have h_ := c31; simp only [ByteArray.size_append] at h_ ⊢; first | omega | (simp only [ByteArray.size] at h_ ⊢; simp at h_ ⊢; omega)
                        have c31z1a := eq_true c31z1
                        have c31z1b := decide_eq_true c31z1
                        have c31z1c : (9223372036854775807 ≤ 5 + t283.size) = False := eq_false (by omega)
                        have c31z2 : 5 + t283.size + 1 ≤ 9223372036854775807 := by have h_ := c31; simp only [ByteArray.size_append] at h_ ⊢; first | omega | (simp only [ByteArray.size] at h_ ⊢; simp at h_ ⊢; omega)
                        have c31z2a := eq_true c31z2
                        have c31z2b := decide_eq_true c31z2
                        have c31z2c : (9223372036854775807 < 5 + t283.size + 1) = False := eq_false (by omega)
                        by_cases c32 : ((rd_T59 l0 x14_1).f1).size + (((⟨#[32, 105, 110, 32, 40]⟩ : ByteArray) ++ t283) ++ (⟨#[41]⟩ : ByteArray)).size ≤ 9223372036854775807
                        · rw [if_pos c32] at H
                          have c32b0 := eq_true c32
                          have c32b1 : decide (((rd_T59 l0 x14_1).f1).size + (((⟨#[32, 105, 110, 32, 40]⟩ : ByteArray) ++ t283) ++ (⟨#[41]⟩ : ByteArray)).size ≤ 9223372036854775807) = true := decide_eq_true c32
                          try have c32b2 : (9223372036854775807 < ((rd_T59 l0 x14_1).f1).size + (((⟨#[32, 105, 110, 32, 40]⟩ : ByteArray) ++ t283) ++ (⟨#[41]⟩ : ByteArray)).size) = False := eq_false (Nat.not_lt.2 c32)
                          by_cases c33 : x3_1.length < 8796093022208
                          · rw [if_pos c33] at H
                            have LMc33 := Aside0.mk c33
                            clear c33
                            obtain ⟨y290, hy290⟩ : ∃ y_ : List ByteArray, y_ = (x3_1 ++ [((rd_T59 l0 x14_1).f1) ++ (((⟨#[32, 105, 110, 32, 40]⟩ : ByteArray) ++ t283) ++ (⟨#[41]⟩ : ByteArray))]) := ⟨_, rfl⟩
                            replace H : (impl_SelectorText.l0 k1 y290 l0 (l0.length : Int) (wrap64 (x14_1 + 1))) = some r := by first | (rw [hy290]; with_reducible exact H) | (have H2_ := (Option.bind_some _ _).symm.trans H; rw [hy290]; with_reducible exact H2_) | (have H2_ := (Option.bind_some _ _).symm.trans H; with_reducible exact H2_) | with_reducible exact H | (rw [hy290]; exact H) | exact H
                            have Ny290 := Aside0.mk hy290
                            clear hy290
                            have H' := Aside0.mk H
                            clear H
                            have p281 : 0 ≤ (x14_1 : Int) := of_decide_eq_true (by first | (with_reducible assumption) | assumption)
                            have q281 : x14_1 < (l0.length : Int) := of_decide_eq_true (by first | (with_reducible assumption) | assumption)
                            obtain ⟨ad281, A281_2, c281_2, e281, hx281_0, hx281_1, hx281_2, hl281_2, hi281_2⟩ := at_T59 HR0.out x14_1 p281 q281
                            cases e281
                            replace hx281_0 := (HB.out.cell (World.block_lt_of_cell? w _ hx281_0)).trans hx281_0
                            replace hx281_1 := (HB.out.cell (World.block_lt_of_cell? w _ hx281_1)).trans hx281_1
                            replace hx281_2 := (HB.out.cell (World.block_lt_of_cell? w _ hx281_2)).trans hx281_2
                            have HR281_2 := Aside0.mk hi281_2
                            have HC281_2 := Aside0.mk hl281_2
                            clear hi281_2 hl281_2
                            replace p281 := eq_true p281
                            replace q281 := eq_true q281
                            go_wp2_with (first | ((with_reducible refine gate_dst (N := 5) rfl ?_); refine box_event ?hg (N := 5) ?hd (cs := #[.int .i64 0, .string (⟨#[]⟩ : ByteArray), .slice none 0 0]) (t := 59) ?hr ?_; (case hd => rfl); (case hg => rfl); (case hr => first | (go_simp; done) | (go_simp; rfl)); intro gb282 hg w34 hbox hb; have n0_ := Aside0.mk (Kd.R_below (by (with_reducible repeat (first | apply Kd.R_alloc | apply Kd.R_drewN | apply Kd.R_drew)); exact HO_3.out) hb); have n1_ := Aside0.mk (below_step (by repeat (first | (with_reducible first | exact HB.out | apply below_alloc | apply pw_below_drewN | apply below_drew1) | exact HB.out)) hb); have n2_ := Aside0.mk (hbox); have n3_ := Aside0.mk ((by rw [hg]; exact (below_size (by repeat (first | (with_reducible first | exact HB.out | apply below_alloc | apply pw_below_drewN | apply below_drew1) | exact HB.out))) : w.heap.size ≤ gb282)); have n4_ := Aside0.mk ((by rw [hg]; exact (below_size (by repeat (first | (with_reducible first | exact HB.out | apply below_alloc | apply pw_below_drewN | apply below_drew1) | exact HB.out))) : w.heap.size ≤ gb282)); clear HO_3; clear HB; have HO_3 := n0_; have HB := n1_; have BK282 := n2_; have GW282 := n3_; have GE282 := n4_; clear n0_ n1_ n2_ n3_ n4_; clear hb hbox hg; have hcz35_0 : w34.cell? ⟨gb282, 0, none⟩ = some (.int .i64 0) := (blk_cell BK282.out 0).trans rfl; have hcz35_1 : w34.cell? ⟨gb282, 1, none⟩ = some (.string (⟨#[]⟩ : ByteArray)) := (blk_cell BK282.out 1).trans rfl; have hcz35_2 : w34.cell? ⟨gb282, 2, none⟩ = some (.slice none 0 0) := (blk_cell BK282.out 2).trans rfl; have hfz35_0 := blk_frozen BK282.out 0; have hfz35_1 := blk_frozen BK282.out 1; have hfz35_2 := blk_frozen BK282.out 2) | ((with_reducible refine gate_callee (f := 59) rfl ?_); refine goesL_ (some 20) rfl rfl Tryd.func59 (by kernel_rfl) rfl #[.slice A281_2 ((rd_T59 l0 x14_1).f2).length c281_2, .string (⟨#[32]⟩ : ByteArray)] rfl (by (try simp only [List.map_toArray, List.map_cons, List.map_nil]); first | done | rfl | (simp only [List.length_drop, List.length_take]; rfl)) ?_; (with_reducible refine (strings_Join.calls _ _ ((rd_T59 l0 x14_1).f2) (⟨#[32]⟩ : ByteArray) t283 _ ?side1 ?side2 A10.out).mono ?_); (case side1 => exact Kd.C_below HR281_2.out (by repeat (first | (with_reducible first | exact HB.out | apply below_alloc | apply pw_below_drewN | apply below_drew1 | refine below_set ?_ GE282.out) | exact HB.out))); (case side2 => exact HC281_2.out); rintro e w36 ⟨rfl, hb⟩; refine ⟨_, rfl, ?_⟩; have n0_ := Aside0.mk (Kd.R_below (by (with_reducible repeat (first | apply Kd.R_alloc | apply Kd.R_drewN | apply Kd.R_drew)); exact (Kd.R_mono (Kd.R_far (p := ⟨gb282, 2, none⟩) (Kd.R_far (p := ⟨gb282, 1, none⟩) (Kd.R_far (p := ⟨gb282, 0, none⟩) (Kd.R_types HO_3.out BK282.out (by decide)) (fun _ hk => hk.2) (.int .i64 ((rd_T59 l0 x14_1).f0))) (fun _ hk => hk.2) (.string ((rd_T59 l0 x14_1).f1))) (fun _ hk => hk.2) (.slice A281_2 ((rd_T59 l0 x14_1).f2).length c281_2)) (fun _ h_ => h_.1))) hb); have n1_ := Aside0.mk (blk_below (g := gb282) (o := .cells #[.int .i64 ((rd_T59 l0 x14_1).f0), .string ((rd_T59 l0 x14_1).f1), .slice A281_2 ((rd_T59 l0 x14_1).f2).length c281_2] 59 (0, 0)) (by (with_reducible repeat (first | refine blk_drewN ?_ _ | refine blk_drew ?_ | refine blk_alloc ?_ _)); refine blk_put (cs := #[.int .i64 ((rd_T59 l0 x14_1).f0), .string ((rd_T59 l0 x14_1).f1), .slice none 0 0]) ?_ 2 _ rfl; (with_reducible repeat (first | refine blk_drewN ?_ _ | refine blk_drew ?_ | refine blk_alloc ?_ _)); refine blk_put (cs := #[.int .i64 ((rd_T59 l0 x14_1).f0), .string (⟨#[]⟩ : ByteArray), .slice none 0 0]) ?_ 1 _ rfl; (with_reducible repeat (first | refine blk_drewN ?_ _ | refine blk_drew ?_ | refine blk_alloc ?_ _)); refine blk_put (cs := #[.int .i64 0, .string (⟨#[]⟩ : ByteArray), .slice none 0 0]) ?_ 0 _ rfl; (with_reducible repeat (first | refine blk_drewN ?_ _ | refine blk_drew ?_ | refine blk_alloc ?_ _)); exact BK282.out) hb); have n2_ := Aside0.mk (below_step (by repeat (first | (with_reducible first | exact HB.out | apply below_alloc | apply pw_below_drewN | apply below_drew1 | refine below_set ?_ GE282.out) | exact HB.out)) hb); clear HO_3; clear BK282; clear HB; have HO_3 := n0_; have BK282 := n1_; have HB := n2_; clear n0_ n1_ n2_; (try clear hb); (try clear hb2); (try clear hk); (try clear hi); have hcz37_0 : w36.cell? ⟨gb282, 0, none⟩ = some (.int .i64 ((rd_T59 l0 x14_1).f0)) := (blk_cell BK282.out 0).trans rfl; have hcz37_1 : w36.cell? ⟨gb282, 1, none⟩ = some (.string ((rd_T59 l0 x14_1).f1)) := (blk_cell BK282.out 1).trans rfl; have hcz37_2 : w36.cell? ⟨gb282, 2, none⟩ = some (.slice A281_2 ((rd_T59 l0 x14_1).f2).length c281_2) := (blk_cell BK282.out 2).trans rfl; have hfz37_0 := blk_frozen BK282.out 0; have hfz37_1 := blk_frozen BK282.out 1; have hfz37_2 := blk_frozen BK282.out 2) | ((with_reducible refine gate_builtin (b := .append) (xs := #[.tmp 48, .tmp 50]) rfl ?_); at_builtin; refine Kd.R_append Kd.string (w0 := w) w.heap.size rfl (.tmp 48) (.tmp 50) 51 9 (.string ⟨#[]⟩) 16 rfl Tryd.underlying51 info9 rfl (by decide) (by omega) u3 x3_1 (((rd_T59 l0 x14_1).f1) ++ (((⟨#[32, 105, 110, 32, 40]⟩ : ByteArray) ++ t283) ++ (⟨#[41]⟩ : ByteArray))) [.string (((rd_T59 l0 x14_1).f1) ++ (((⟨#[32, 105, 110, 32, 40]⟩ : ByteArray) ++ t283) ++ (⟨#[41]⟩ : ByteArray)))] (fun _ => True) (fun _ => False) rfl rfl ?aP (fun _ hk => hk.elim) ?aF ?aO ?aB ?aS ?aL ?_; (case aP => exact rfl); (case aB => exact (by repeat (first | (with_reducible first | exact HB.out | apply below_alloc | apply pw_below_drewN | apply below_drew1 | refine below_set ?_ GE282.out) | exact HB.out))); (case aF => exact (fun _ _ => trivial)); (case aO => exact (by (with_reducible repeat (first | apply Kd.R_alloc | apply Kd.R_drewN | apply Kd.R_drew)); exact HO_3.out)); (case aS => exact (below_size (by repeat (first | (with_reducible first | exact HB.out | apply below_alloc | apply pw_below_drewN | apply below_drew1 | refine below_set ?_ GE282.out) | exact HB.out)))); (case aL => have := LMc33.out; omega); intro v291 w38 ho hb hg hat; rw [← Ny290.out] at ho; have n0_ := Aside0.mk (blk_grown (g := gb282) (o := .cells #[.int .i64 ((rd_T59 l0 x14_1).f0), .string ((rd_T59 l0 x14_1).f1), .slice A281_2 ((rd_T59 l0 x14_1).f2).length c281_2] 59 (0, 0)) (by (with_reducible repeat (first | refine blk_drewN ?_ _ | refine blk_drew ?_ | refine blk_alloc ?_ _)); exact BK282.out) hg (Kd.R_ne HO_3.out BK282.out (by decide))); have n1_ := Aside0.mk (hb); have n2_ := Aside0.mk (ho); clear BK282; clear HB; clear HO_3; have BK282 := n0_; have HB := n1_; have HO292 := n2_; clear n0_ n1_ n2_; clear ho hb hg hat))
                            go_roundg k1
                            case measure => have := HK1.out; omega
                            case rel => exact ⟨(y290), (wrap64 (x14_1 + 1)), (by first | rfl | (simp; done) | (simp [*]; done)), H', ⟨by have := HK1.out; omega⟩, ⟨by (with_reducible repeat (first | apply Kd.R_alloc | apply Kd.R_drewN | apply Kd.R_drew)); exact HO292.out⟩, ⟨by repeat (first | (with_reducible first | exact HB.out | apply below_alloc | apply pw_below_drewN | apply below_drew1 | refine below_set ?_ GE282.out) | exact HB.out)⟩⟩
                          · rw [if_neg c33] at H
                            exact absurd H (by simp)
                        · rw [if_neg c32] at H
                          exact absurd H (by simp)
                      · rw [if_neg c31] at H
                        exact absurd H (by simp)
                    · rw [if_neg c30] at H
                      exact absurd H (by simp)
                  · rw [if_neg c29] at H
                    have c29b0 : (((rd_T59 l0 x14_1).f0) == 3) = false := beq_eq_false_iff_ne.mpr c29
                    have c29b1 : (((rd_T59 l0 x14_1).f0) != 3) = true := bne_iff_ne.mpr c29
                    by_cases c39 : ((rd_T59 l0 x14_1).f0) = 5
                    · rw [if_pos c39] at H
                      have c39b0 : (((rd_T59 l0 x14_1).f0) == 5) = true := beq_iff_eq.mpr c39
                      have c39b1 : (((rd_T59 l0 x14_1).f0) != 5) = false := bne_eq_false_iff_eq.mpr c39
                      clear c39
                      by_cases c40 : 1 + ((rd_T59 l0 x14_1).f1).size ≤ 9223372036854775807
                      · rw [if_pos c40] at H
                        have c40b0 := eq_true c40
                        have c40b1 : decide (1 + ((rd_T59 l0 x14_1).f1).size ≤ 9223372036854775807) = true := decide_eq_true c40
                        try have c40b2 : (9223372036854775807 < 1 + ((rd_T59 l0 x14_1).f1).size) = False := eq_false (Nat.not_lt.2 c40)
                        by_cases c41 : x3_1.length < 8796093022208
                        · rw [if_pos c41] at H
                          have LMc41 := Aside0.mk c41
                          clear c41
                          obtain ⟨y293, hy293⟩ : ∃ y_ : List ByteArray, y_ = (x3_1 ++ [(⟨#[33]⟩ : ByteArray) ++ ((rd_T59 l0 x14_1).f1)]) := ⟨_, rfl⟩
                          replace H : (impl_SelectorText.l0 k1 y293 l0 (l0.length : Int) (wrap64 (x14_1 + 1))) = some r := by first | (rw [hy293]; with_reducible exact H) | (have H2_ := (Option.bind_some _ _).symm.trans H; rw [hy293]; with_reducible exact H2_) | (have H2_ := (Option.bind_some _ _).symm.trans H; with_reducible exact H2_) | with_reducible exact H | (rw [hy293]; exact H) | exact H
                          have Ny293 := Aside0.mk hy293
                          clear hy293
                          have H' := Aside0.mk H
                          clear H
                          have p281 : 0 ≤ (x14_1 : Int) := of_decide_eq_true (by first | (with_reducible assumption) | assumption)
                          have q281 : x14_1 < (l0.length : Int) := of_decide_eq_true (by first | (with_reducible assumption) | assumption)
                          obtain ⟨ad281, A281_2, c281_2, e281, hx281_0, hx281_1, hx281_2, hl281_2, hi281_2⟩ := at_T59 HR0.out x14_1 p281 q281
                          cases e281
                          replace hx281_0 := (HB.out.cell (World.block_lt_of_cell? w _ hx281_0)).trans hx281_0
                          replace hx281_1 := (HB.out.cell (World.block_lt_of_cell? w _ hx281_1)).trans hx281_1
                          replace hx281_2 := (HB.out.cell (World.block_lt_of_cell? w _ hx281_2)).trans hx281_2
                          have HR281_2 := Aside0.mk hi281_2
                          have HC281_2 := Aside0.mk hl281_2
                          clear hi281_2 hl281_2
                          replace p281 := eq_true p281
                          replace q281 := eq_true q281
                          go_wp2_with (first | ((with_reducible refine gate_dst (N := 5) rfl ?_); refine box_event ?hg (N := 5) ?hd (cs := #[.int .i64 0, .string (⟨#[]⟩ : ByteArray), .slice none 0 0]) (t := 59) ?hr ?_; (case hd => rfl); (case hg => rfl); (case hr => first | (go_simp; done) | (go_simp; rfl)); intro gb282 hg w42 hbox hb; have n0_ := Aside0.mk (Kd.R_below (by (with_reducible repeat (first | apply Kd.R_alloc | apply Kd.R_drewN | apply Kd.R_drew)); exact HO_3.out) hb); have n1_ := Aside0.mk (below_step (by repeat (first | (with_reducible first | exact HB.out | apply below_alloc | apply pw_below_drewN | apply below_drew1) | exact HB.out)) hb); have n2_ := Aside0.mk (hbox); have n3_ := Aside0.mk ((by rw [hg]; exact (below_size (by repeat (first | (with_reducible first | exact HB.out | apply below_alloc | apply pw_below_drewN | apply below_drew1) | exact HB.out))) : w.heap.size ≤ gb282)); have n4_ := Aside0.mk ((by rw [hg]; exact (below_size (by repeat (first | (with_reducible first | exact HB.out | apply below_alloc | apply pw_below_drewN | apply below_drew1) | exact HB.out))) : w.heap.size ≤ gb282)); clear HO_3; clear HB; have HO_3 := n0_; have HB := n1_; have BK282 := n2_; have GW282 := n3_; have GE282 := n4_; clear n0_ n1_ n2_ n3_ n4_; clear hb hbox hg; have hcz43_0 : w42.cell? ⟨gb282, 0, none⟩ = some (.int .i64 0) := (blk_cell BK282.out 0).trans rfl; have hcz43_1 : w42.cell? ⟨gb282, 1, none⟩ = some (.string (⟨#[]⟩ : ByteArray)) := (blk_cell BK282.out 1).trans rfl; have hcz43_2 : w42.cell? ⟨gb282, 2, none⟩ = some (.slice none 0 0) := (blk_cell BK282.out 2).trans rfl; have hfz43_0 := blk_frozen BK282.out 0; have hfz43_1 := blk_frozen BK282.out 1; have hfz43_2 := blk_frozen BK282.out 2) | ((with_reducible refine gate_callee (f := 59) rfl ?_); refine goesL_ (some 20) rfl rfl Tryd.func59 (by kernel_rfl) rfl #[.slice A281_2 ((rd_T59 l0 x14_1).f2).length c281_2, .string (⟨#[32]⟩ : ByteArray)] rfl (by (try simp only [List.map_toArray, List.map_cons, List.map_nil]); first | done | rfl | (simp only [List.length_drop, List.length_take]; rfl)) ?_; (with_reducible refine (strings_Join.calls _ _ ((rd_T59 l0 x14_1).f2) (⟨#[32]⟩ : ByteArray) t283 _ ?side1 ?side2 A10.out).mono ?_); (case side1 => exact Kd.C_below HR281_2.out (by repeat (first | (with_reducible first | exact HB.out | apply below_alloc | apply pw_below_drewN | apply below_drew1 | refine below_set ?_ GE282.out) | exact HB.out))); (case side2 => exact HC281_2.out); rintro e w44 ⟨rfl, hb⟩; refine ⟨_, rfl, ?_⟩; have n0_ := Aside0.mk (Kd.R_below (by (with_reducible repeat (first | apply Kd.R_alloc | apply Kd.R_drewN | apply Kd.R_drew)); exact (Kd.R_mono (Kd.R_far (p := ⟨gb282, 2, none⟩) (Kd.R_far (p := ⟨gb282, 1, none⟩) (Kd.R_far (p := ⟨gb282, 0, none⟩) (Kd.R_types HO_3.out BK282.out (by decide)) (fun _ hk => hk.2) (.int .i64 ((rd_T59 l0 x14_1).f0))) (fun _ hk => hk.2) (.string ((rd_T59 l0 x14_1).f1))) (fun _ hk => hk.2) (.slice A281_2 ((rd_T59 l0 x14_1).f2).length c281_2)) (fun _ h_ => h_.1))) hb); have n1_ := Aside0.mk (blk_below (g := gb282) (o := .cells #[.int .i64 ((rd_T59 l0 x14_1).f0), .string ((rd_T59 l0 x14_1).f1), .slice A281_2 ((rd_T59 l0 x14_1).f2).length c281_2] 59 (0, 0)) (by (with_reducible repeat (first | refine blk_drewN ?_ _ | refine blk_drew ?_ | refine blk_alloc ?_ _)); refine blk_put (cs := #[.int .i64 ((rd_T59 l0 x14_1).f0), .string ((rd_T59 l0 x14_1).f1), .slice none 0 0]) ?_ 2 _ rfl; (with_reducible repeat (first | refine blk_drewN ?_ _ | refine blk_drew ?_ | refine blk_alloc ?_ _)); refine blk_put (cs := #[.int .i64 ((rd_T59 l0 x14_1).f0), .string (⟨#[]⟩ : ByteArray), .slice none 0 0]) ?_ 1 _ rfl; (with_reducible repeat (first | refine blk_drewN ?_ _ | refine blk_drew ?_ | refine blk_alloc ?_ _)); refine blk_put (cs := #[.int .i64 0, .string (⟨#[]⟩ : ByteArray), .slice none 0 0]) ?_ 0 _ rfl; (with_reducible repeat (first | refine blk_drewN ?_ _ | refine blk_drew ?_ | refine blk_alloc ?_ _)); exact BK282.out) hb); have n2_ := Aside0.mk (below_step (by repeat (first | (with_reducible first | exact HB.out | apply below_alloc | apply pw_below_drewN | apply below_drew1 | refine below_set ?_ GE282.out) | exact HB.out)) hb); clear HO_3; clear BK282; clear HB; have HO_3 := n0_; have BK282 := n1_; have HB := n2_; clear n0_ n1_ n2_; (try clear hb); (try clear hb2); (try clear hk); (try clear hi); have hcz45_0 : w44.cell? ⟨gb282, 0, none⟩ = some (.int .i64 ((rd_T59 l0 x14_1).f0)) := (blk_cell BK282.out 0).trans rfl; have hcz45_1 : w44.cell? ⟨gb282, 1, none⟩ = some (.string ((rd_T59 l0 x14_1).f1)) := (blk_cell BK282.out 1).trans rfl; have hcz45_2 : w44.cell? ⟨gb282, 2, none⟩ = some (.slice A281_2 ((rd_T59 l0 x14_1).f2).length c281_2) := (blk_cell BK282.out 2).trans rfl; have hfz45_0 := blk_frozen BK282.out 0; have hfz45_1 := blk_frozen BK282.out 1; have hfz45_2 := blk_frozen BK282.out 2) | ((with_reducible refine gate_builtin (b := .append) (xs := #[.tmp 48, .tmp 50]) rfl ?_); at_builtin; refine Kd.R_append Kd.string (w0 := w) w.heap.size rfl (.tmp 48) (.tmp 50) 51 9 (.string ⟨#[]⟩) 16 rfl Tryd.underlying51 info9 rfl (by decide) (by omega) u3 x3_1 ((⟨#[33]⟩ : ByteArray) ++ ((rd_T59 l0 x14_1).f1)) [.string ((⟨#[33]⟩ : ByteArray) ++ ((rd_T59 l0 x14_1).f1))] (fun _ => True) (fun _ => False) rfl rfl ?aP (fun _ hk => hk.elim) ?aF ?aO ?aB ?aS ?aL ?_; (case aP => exact rfl); (case aB => exact (by repeat (first | (with_reducible first | exact HB.out | apply below_alloc | apply pw_below_drewN | apply below_drew1 | refine below_set ?_ GE282.out) | exact HB.out))); (case aF => exact (fun _ _ => trivial)); (case aO => exact (by (with_reducible repeat (first | apply Kd.R_alloc | apply Kd.R_drewN | apply Kd.R_drew)); exact HO_3.out)); (case aS => exact (below_size (by repeat (first | (with_reducible first | exact HB.out | apply below_alloc | apply pw_below_drewN | apply below_drew1 | refine below_set ?_ GE282.out) | exact HB.out)))); (case aL => have := LMc41.out; omega); intro v294 w46 ho hb hg hat; rw [← Ny293.out] at ho; have n0_ := Aside0.mk (blk_grown (g := gb282) (o := .cells #[.int .i64 ((rd_T59 l0 x14_1).f0), .string ((rd_T59 l0 x14_1).f1), .slice A281_2 ((rd_T59 l0 x14_1).f2).length c281_2] 59 (0, 0)) (by (with_reducible repeat (first | refine blk_drewN ?_ _ | refine blk_drew ?_ | refine blk_alloc ?_ _)); exact BK282.out) hg (Kd.R_ne HO_3.out BK282.out (by decide))); have n1_ := Aside0.mk (hb); have n2_ := Aside0.mk (ho); clear BK282; clear HB; clear HO_3; have BK282 := n0_; have HB := n1_; have HO295 := n2_; clear n0_ n1_ n2_; clear ho hb hg hat))
                          go_roundg k1
                          case measure => have := HK1.out; omega
                          case rel => exact ⟨(y293), (wrap64 (x14_1 + 1)), (by first | rfl | (simp; done) | (simp [*]; done)), H', ⟨by have := HK1.out; omega⟩, ⟨by (with_reducible repeat (first | apply Kd.R_alloc | apply Kd.R_drewN | apply Kd.R_drew)); exact HO295.out⟩, ⟨by repeat (first | (with_reducible first | exact HB.out | apply below_alloc | apply pw_below_drewN | apply below_drew1 | refine below_set ?_ GE282.out) | exact HB.out)⟩⟩
                        · rw [if_neg c41] at H
                          exact absurd H (by simp)
                      · rw [if_neg c40] at H
                        exact absurd H (by simp)
                    · rw [if_neg c39] at H
                      have c39b0 : (((rd_T59 l0 x14_1).f0) == 5) = false := beq_eq_false_iff_ne.mpr c39
                      have c39b1 : (((rd_T59 l0 x14_1).f0) != 5) = true := bne_iff_ne.mpr c39
                      by_cases c47 : x3_1.length < 8796093022208
                      · rw [if_pos c47] at H
                        have LMc47 := Aside0.mk c47
                        clear c47
                        obtain ⟨y296, hy296⟩ : ∃ y_ : List ByteArray, y_ = (x3_1 ++ [(rd_T59 l0 x14_1).f1]) := ⟨_, rfl⟩
                        replace H : (impl_SelectorText.l0 k1 y296 l0 (l0.length : Int) (wrap64 (x14_1 + 1))) = some r := by first | (rw [hy296]; with_reducible exact H) | (have H2_ := (Option.bind_some _ _).symm.trans H; rw [hy296]; with_reducible exact H2_) | (have H2_ := (Option.bind_some _ _).symm.trans H; with_reducible exact H2_) | with_reducible exact H | (rw [hy296]; exact H) | exact H
                        have Ny296 := Aside0.mk hy296
                        clear hy296
                        have H' := Aside0.mk H
                        clear H
                        have p281 : 0 ≤ (x14_1 : Int) := of_decide_eq_true (by first | (with_reducible assumption) | assumption)
                        have q281 : x14_1 < (l0.length : Int) := of_decide_eq_true (by first | (with_reducible assumption) | assumption)
                        obtain ⟨ad281, A281_2, c281_2, e281, hx281_0, hx281_1, hx281_2, hl281_2, hi281_2⟩ := at_T59 HR0.out x14_1 p281 q281
                        cases e281
                        replace hx281_0 := (HB.out.cell (World.block_lt_of_cell? w _ hx281_0)).trans hx281_0
                        replace hx281_1 := (HB.out.cell (World.block_lt_of_cell? w _ hx281_1)).trans hx281_1
                        replace hx281_2 := (HB.out.cell (World.block_lt_of_cell? w _ hx281_2)).trans hx281_2
                        have HR281_2 := Aside0.mk hi281_2
                        have HC281_2 := Aside0.mk hl281_2
                        clear hi281_2 hl281_2
                        replace p281 := eq_true p281
                        replace q281 := eq_true q281
                        go_wp2_with (first | ((with_reducible refine gate_dst (N := 5) rfl ?_); refine box_event ?hg (N := 5) ?hd (cs := #[.int .i64 0, .string (⟨#[]⟩ : ByteArray), .slice none 0 0]) (t := 59) ?hr ?_; (case hd => rfl); (case hg => rfl); (case hr => first | (go_simp; done) | (go_simp; rfl)); intro gb282 hg w48 hbox hb; have n0_ := Aside0.mk (Kd.R_below (by (with_reducible repeat (first | apply Kd.R_alloc | apply Kd.R_drewN | apply Kd.R_drew)); exact HO_3.out) hb); have n1_ := Aside0.mk (below_step (by repeat (first | (with_reducible first | exact HB.out | apply below_alloc | apply pw_below_drewN | apply below_drew1) | exact HB.out)) hb); have n2_ := Aside0.mk (hbox); have n3_ := Aside0.mk ((by rw [hg]; exact (below_size (by repeat (first | (with_reducible first | exact HB.out | apply below_alloc | apply pw_below_drewN | apply below_drew1) | exact HB.out))) : w.heap.size ≤ gb282)); have n4_ := Aside0.mk ((by rw [hg]; exact (below_size (by repeat (first | (with_reducible first | exact HB.out | apply below_alloc | apply pw_below_drewN | apply below_drew1) | exact HB.out))) : w.heap.size ≤ gb282)); clear HO_3; clear HB; have HO_3 := n0_; have HB := n1_; have BK282 := n2_; have GW282 := n3_; have GE282 := n4_; clear n0_ n1_ n2_ n3_ n4_; clear hb hbox hg; have hcz49_0 : w48.cell? ⟨gb282, 0, none⟩ = some (.int .i64 0) := (blk_cell BK282.out 0).trans rfl; have hcz49_1 : w48.cell? ⟨gb282, 1, none⟩ = some (.string (⟨#[]⟩ : ByteArray)) := (blk_cell BK282.out 1).trans rfl; have hcz49_2 : w48.cell? ⟨gb282, 2, none⟩ = some (.slice none 0 0) := (blk_cell BK282.out 2).trans rfl; have hfz49_0 := blk_frozen BK282.out 0; have hfz49_1 := blk_frozen BK282.out 1; have hfz49_2 := blk_frozen BK282.out 2) | ((with_reducible refine gate_callee (f := 59) rfl ?_); refine goesL_ (some 20) rfl rfl Tryd.func59 (by kernel_rfl) rfl #[.slice A281_2 ((rd_T59 l0 x14_1).f2).length c281_2, .string (⟨#[32]⟩ : ByteArray)] rfl (by (try simp only [List.map_toArray, List.map_cons, List.map_nil]); first | done | rfl | (simp only [List.length_drop, List.length_take]; rfl)) ?_; (with_reducible refine (strings_Join.calls _ _ ((rd_T59 l0 x14_1).f2) (⟨#[32]⟩ : ByteArray) t283 _ ?side1 ?side2 A10.out).mono ?_); (case side1 => exact Kd.C_below HR281_2.out (by repeat (first | (with_reducible first | exact HB.out | apply below_alloc | apply pw_below_drewN | apply below_drew1 | refine below_set ?_ GE282.out) | exact HB.out))); (case side2 => exact HC281_2.out); rintro e w50 ⟨rfl, hb⟩; refine ⟨_, rfl, ?_⟩; have n0_ := Aside0.mk (Kd.R_below (by (with_reducible repeat (first | apply Kd.R_alloc | apply Kd.R_drewN | apply Kd.R_drew)); exact (Kd.R_mono (Kd.R_far (p := ⟨gb282, 2, none⟩) (Kd.R_far (p := ⟨gb282, 1, none⟩) (Kd.R_far (p := ⟨gb282, 0, none⟩) (Kd.R_types HO_3.out BK282.out (by decide)) (fun _ hk => hk.2) (.int .i64 ((rd_T59 l0 x14_1).f0))) (fun _ hk => hk.2) (.string ((rd_T59 l0 x14_1).f1))) (fun _ hk => hk.2) (.slice A281_2 ((rd_T59 l0 x14_1).f2).length c281_2)) (fun _ h_ => h_.1))) hb); have n1_ := Aside0.mk (blk_below (g := gb282) (o := .cells #[.int .i64 ((rd_T59 l0 x14_1).f0), .string ((rd_T59 l0 x14_1).f1), .slice A281_2 ((rd_T59 l0 x14_1).f2).length c281_2] 59 (0, 0)) (by (with_reducible repeat (first | refine blk_drewN ?_ _ | refine blk_drew ?_ | refine blk_alloc ?_ _)); refine blk_put (cs := #[.int .i64 ((rd_T59 l0 x14_1).f0), .string ((rd_T59 l0 x14_1).f1), .slice none 0 0]) ?_ 2 _ rfl; (with_reducible repeat (first | refine blk_drewN ?_ _ | refine blk_drew ?_ | refine blk_alloc ?_ _)); refine blk_put (cs := #[.int .i64 ((rd_T59 l0 x14_1).f0), .string (⟨#[]⟩ : ByteArray), .slice none 0 0]) ?_ 1 _ rfl; (with_reducible repeat (first | refine blk_drewN ?_ _ | refine blk_drew ?_ | refine blk_alloc ?_ _)); refine blk_put (cs := #[.int .i64 0, .string (⟨#[]⟩ : ByteArray), .slice none 0 0]) ?_ 0 _ rfl; (with_reducible repeat (first | refine blk_drewN ?_ _ | refine blk_drew ?_ | refine blk_alloc ?_ _)); exact BK282.out) hb); have n2_ := Aside0.mk (below_step (by repeat (first | (with_reducible first | exact HB.out | apply below_alloc | apply pw_below_drewN | apply below_drew1 | refine below_set ?_ GE282.out) | exact HB.out)) hb); clear HO_3; clear BK282; clear HB; have HO_3 := n0_; have BK282 := n1_; have HB := n2_; clear n0_ n1_ n2_; (try clear hb); (try clear hb2); (try clear hk); (try clear hi); have hcz51_0 : w50.cell? ⟨gb282, 0, none⟩ = some (.int .i64 ((rd_T59 l0 x14_1).f0)) := (blk_cell BK282.out 0).trans rfl; have hcz51_1 : w50.cell? ⟨gb282, 1, none⟩ = some (.string ((rd_T59 l0 x14_1).f1)) := (blk_cell BK282.out 1).trans rfl; have hcz51_2 : w50.cell? ⟨gb282, 2, none⟩ = some (.slice A281_2 ((rd_T59 l0 x14_1).f2).length c281_2) := (blk_cell BK282.out 2).trans rfl; have hfz51_0 := blk_frozen BK282.out 0; have hfz51_1 := blk_frozen BK282.out 1; have hfz51_2 := blk_frozen BK282.out 2) | ((with_reducible refine gate_builtin (b := .append) (xs := #[.tmp 48, .tmp 50]) rfl ?_); at_builtin; refine Kd.R_append Kd.string (w0 := w) w.heap.size rfl (.tmp 48) (.tmp 50) 51 9 (.string ⟨#[]⟩) 16 rfl Tryd.underlying51 info9 rfl (by decide) (by omega) u3 x3_1 ((rd_T59 l0 x14_1).f1) [.string ((rd_T59 l0 x14_1).f1)] (fun _ => True) (fun _ => False) rfl rfl ?aP (fun _ hk => hk.elim) ?aF ?aO ?aB ?aS ?aL ?_; (case aP => exact rfl); (case aB => exact (by repeat (first | (with_reducible first | exact HB.out | apply below_alloc | apply pw_below_drewN | apply below_drew1 | refine below_set ?_ GE282.out) | exact HB.out))); (case aF => exact (fun _ _ => trivial)); (case aO => exact (by (with_reducible repeat (first | apply Kd.R_alloc | apply Kd.R_drewN | apply Kd.R_drew)); exact HO_3.out)); (case aS => exact (below_size (by repeat (first | (with_reducible first | exact HB.out | apply below_alloc | apply pw_below_drewN | apply below_drew1 | refine below_set ?_ GE282.out) | exact HB.out)))); (case aL => have := LMc47.out; omega); intro v297 w52 ho hb hg hat; rw [← Ny296.out] at ho; have n0_ := Aside0.mk (blk_grown (g := gb282) (o := .cells #[.int .i64 ((rd_T59 l0 x14_1).f0), .string ((rd_T59 l0 x14_1).f1), .slice A281_2 ((rd_T59 l0 x14_1).f2).length c281_2] 59 (0, 0)) (by (with_reducible repeat (first | refine blk_drewN ?_ _ | refine blk_drew ?_ | refine blk_alloc ?_ _)); exact BK282.out) hg (Kd.R_ne HO_3.out BK282.out (by decide))); have n1_ := Aside0.mk (hb); have n2_ := Aside0.mk (ho); clear BK282; clear HB; clear HO_3; have BK282 := n0_; have HB := n1_; have HO298 := n2_; clear n0_ n1_ n2_; clear ho hb hg hat))
                        go_roundg k1
                        case measure => have := HK1.out; omega
                        case rel => exact ⟨(y296), (wrap64 (x14_1 + 1)), (by first | rfl | (simp; done) | (simp [*]; done)), H', ⟨by have := HK1.out; omega⟩, ⟨by (with_reducible repeat (first | apply Kd.R_alloc | apply Kd.R_drewN | apply Kd.R_drew)); exact HO298.out⟩, ⟨by repeat (first | (with_reducible first | exact HB.out | apply below_alloc | apply pw_below_drewN | apply below_drew1 | refine below_set ?_ GE282.out) | exact HB.out)⟩⟩
                      · rw [if_neg c47] at H
                        exact absurd H (by simp)
            · rw [if_neg c9] at H
              exact absurd H (by simp)
          · rw [if_neg c8] at H
            exact absurd H (by simp)
        · rw [if_neg c7] at H
          have c7b0 : decide (x14_1 < (l0.length : Int)) = false := decide_eq_false c7
          clear c7
          replace H := Option.bind_eq_some_iff.mp H
          obtain ⟨t280, A530, H⟩ := H
          replace H : (some t280) = some r := H
          have A53 := Aside0.mk A530
          clear A530
          obtain rfl := Option.some.inj H
          obtain ⟨Ao54, co54, eo54⟩ := Kd.R_slice HO_3.out
          subst eo54
          go_wp2_with (first | ((with_reducible refine gate_callee (f := 59) rfl ?_); refine goesL_ (some 54) rfl rfl Tryd.func59 (by kernel_rfl) rfl #[.slice Ao54 x3_1.length co54, .string (⟨#[44]⟩ : ByteArray)] rfl (by (try simp only [List.map_toArray, List.map_cons, List.map_nil]); first | done | rfl | (simp only [List.length_drop, List.length_take]; rfl)) ?_; (with_reducible refine (strings_Join.calls _ _ x3_1 (⟨#[44]⟩ : ByteArray) t280 _ ?side1 ?side2 A53.out).mono ?_); (case side1 => repeat (first | exact (Kd.R_reads' HO_3.out).2.2 | (with_reducible refine Kd.C_alloc ?_ _) | (with_reducible refine Kd.C_drewN ?_ _) | (with_reducible refine Kd.C_drew ?_))); (case side2 => exact (Kd.R_reads' HO_3.out).2.1); rintro e w55 ⟨rfl, hb⟩; refine ⟨_, rfl, ?_⟩; have n0_ := Aside0.mk (Kd.R_below (by (with_reducible repeat (first | apply Kd.R_alloc | apply Kd.R_drewN | apply Kd.R_drew)); exact HO_3.out) hb); have n1_ := Aside0.mk (below_step (by repeat (first | (with_reducible first | exact HB.out | apply below_alloc | apply pw_below_drewN | apply below_drew1) | exact HB.out)) hb); clear HO_3; clear HB; have HO_3 := n0_; have HB := n1_; clear n0_ n1_; (try clear hb); (try clear hb2); (try clear hk); (try clear hi)))
          go_ret
          exact ⟨by first | rfl | (simp [errW_none, errW_some] <;> rfl) | (simp [*, errW_none, errW_some] <;> rfl), by repeat (first | (with_reducible first | exact HB.out | apply below_alloc | apply pw_below_drewN | apply below_drew1) | exact HB.out)⟩
  · replace c3 := Bool.eq_false_iff.mpr c3
    subst c3
    have H1 : (some (⟨#[]⟩ : ByteArray)) = some r := by rw [if_neg (show ¬ (false = true) by decide)] at H; exact H
    clear H
    have H := H1
    clear H1
    obtain rfl := Option.some.inj H
    go_enter Tryd.func28, Tryd.ntmps28
    go_wp2_with (first | ((with_reducible refine gate_callee (f := 30) rfl ?_); refine goesL_ (some 9) rfl rfl Tryd.func30 (by kernel_rfl) rfl #[.slice A0 l0.length c0] rfl (by (try simp only [List.map_toArray, List.map_cons, List.map_nil]); first | done | rfl | (simp only [List.length_drop, List.length_take]; rfl)) ?_; (with_reducible refine (impl_SelectorOk.calls k _ _ l0 false _ ?side1 ?side2 A2.out).mono ?_); (case side1 => repeat (first | exact HR0.out | (with_reducible refine Kd.C_alloc ?_ _) | (with_reducible refine Kd.C_drewN ?_ _) | (with_reducible refine Kd.C_drew ?_))); (case side2 => exact HC0.out); rintro e w56 ⟨rfl, hb⟩; refine ⟨_, rfl, ?_⟩; have n0_ := Aside0.mk (below_step (by repeat (first | (with_reducible first | exact HB.out | apply below_alloc | apply pw_below_drewN | apply below_drew1) | exact HB.out)) hb); clear HB; have HB := n0_; clear n0_; (try clear hb); (try clear hb2); (try clear hk); (try clear hi)))
    go_ret
    exact ⟨by first | rfl | (simp [errW_none, errW_some] <;> rfl) | (simp [*, errW_none, errW_some] <;> rfl), by repeat (first | (with_reducible first | exact HB.out | apply below_alloc | apply pw_below_drewN | apply below_drew1) | exact HB.out)⟩

end Go.Proofs.YtpjpnppoejnafaaDoor.G
