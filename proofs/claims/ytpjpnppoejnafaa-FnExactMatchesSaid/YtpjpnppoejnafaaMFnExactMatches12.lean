import Derived.Test.YtpjpnppoejnafaaMFnExactMatches3
import Derived.Test.YtpjpnppoejnafaaMFnExactMatches6
import Derived.Test.YtpjpnppoejnafaaMFnExactMatches9
import Derived.Test.YtpjpnppoejnafaaMFnExactMatches10
import Derived.Test.YtpjpnppoejnafaaMFnExactMatches11
import Derived.Test.YtpjpnppoejnafaaMFnExactMatches1
import Derived.ChangeArms
import Derived.ChangeShapes
import Derived.DataReads
import Derived.Test.YtpjpnppoejnafaaProg
import Derived.WideShapes
import Derived.KernelRfl
import Derived.Test.YtpjpnppoejnafaaRows
import Derived.WalkKit
import Derived.ProofKit
import Derived.OpenShut
import Derived.ShutString
import Derived.ChangeOld
import Derived.Carry
import Derived.Below
import Derived.Handed
/- PMatch -/
/-
  Matching: a term holds of labels; the law of Matches.
-/
namespace Go.Proofs.Ytpjpnppoejnafaa.G
open Go.RowKit Go.Proofs.YtpjpnppoejnafaaW.PrintWords Go.Proofs.YtpjpnppoejnafaaW.PrintLast Go.Proofs.YtpjpnppoejnafaaW.PrintMore
set_option linter.unusedVariables false
def amongB (xs : List ByteArray) (v : ByteArray) : Bool := !allN xs.length (fun i => !decide ((rdOf ByteArray.empty xs i).toList = v.toList))
theorem l2Among_ev (xs : List ByteArray) (v : ByteArray) (h : xs.length ≤ 9223372036854775807) : Ev (fun k => spec_l2Among.f k xs v) (amongB xs v) := by
  unfold spec_l2Among.f amongB
  refine loop_any (g := fun k i => spec_l2Among.l0 k xs v i) xs.length (fun i => decide ((rdOf ByteArray.empty xs i).toList = v.toList)) ?_ ?_ ?_
  · intro i hi hok r hr
    refine Ev.step (fun k => by rw [spec_l2Among.l0]) ?_
    simp only [wsucc hi h]
    exact ev_if_pos (by omega) (ev_if_pos (by omega) (ev_if_neg (of_decide_eq_false hok) hr))
  · intro i hi hok
    exact Ev.step (fun k => by rw [spec_l2Among.l0]) (ev_if_pos (by omega) (ev_if_pos (by omega) (ev_if_pos (of_decide_eq_true hok) (Ev.now _))))
  · exact Ev.step (fun k => by rw [spec_l2Among.l0]) (ev_if_neg (by omega) (Ev.now _))
theorem containsStr_ev (xs : List ByteArray) (v : ByteArray) (h : xs.length ≤ 9223372036854775807) : Ev (fun k => slices_Contains_string_string.f k xs v) (amongB xs v) := by
  unfold slices_Contains_string_string.f slices_Index_string_string.f
  have key := loop_find (g := fun k i => slices_Index_string_string.l0 k xs v xs.length i) xs.length (fun i : Nat => decide ((rdOf ByteArray.empty xs i).toList = v.toList)) (fun i => (i : Int)) (-1) ?_ ?_ ?_
  · refine Ev.bind key (ev_some ?_)
    unfold amongB allN
    cases hf : (List.range xs.length).find? (fun i : Nat => decide ((rdOf ByteArray.empty xs i).toList = v.toList)) with
    | none =>
      rw [List.find?_eq_none] at hf
      have : (List.range xs.length).all (fun i : Nat => !decide ((rdOf ByteArray.empty xs i).toList = v.toList)) = true := by
        rw [List.all_eq_true]; intro i hi; have := hf i hi; simpa using this
      rw [this]; rfl
    | some i =>
      have h1 := List.find?_some hf
      have h2 := List.mem_of_find?_eq_some hf
      have : (List.range xs.length).all (fun i : Nat => !decide ((rdOf ByteArray.empty xs i).toList = v.toList)) = false := by
        rw [← Bool.not_eq_true, List.all_eq_true]; intro hh; have := hh i h2; rw [h1] at this; cases this
      rw [this]; exact decide_eq_true (by show ((i : Nat) : Int) ≥ 0; omega)
  · intro i hi hok r hr
    refine Ev.step (fun k => by rw [slices_Index_string_string.l0]) ?_
    simp only [wsucc hi h]
    exact ev_if_pos (by omega) (ev_if_pos (by omega) (ev_if_pos (by omega) (ev_if_neg (fun e => of_decide_eq_false hok e.symm) hr)))
  · intro i hi hok
    exact Ev.step (fun k => by rw [slices_Index_string_string.l0]) (ev_if_pos (by omega) (ev_if_pos (by omega) (ev_if_pos (by omega) (ev_if_pos (of_decide_eq_true hok).symm (Ev.now _)))))
  · exact Ev.step (fun k => by rw [slices_Index_string_string.l0]) (ev_if_neg (by omega) (Ev.now _))
def holdB (kind : Int) (has am : Bool) : Bool := if kind = 1 ∨ kind = 3 then has && am else if kind = 2 then !(has && am) else if kind = 4 then has else !has
theorem l2Holds_ev (kind : Int) (key : ByteArray) (vals : List ByteArray) (v : ByteArray) (has : Bool) (h : vals.length ≤ 9223372036854775807) : Ev (fun k => spec_l2Holds.f k kind key vals v has) (holdB kind has (amongB vals v)) := by
  have j : ∀ b : Bool, (b = true ↔ kind = 1 ∨ kind = 3) → Ev (fun k => spec_l2Holds.j0 k v has kind b kind key vals) (holdB kind has (amongB vals v)) := by
    intro b hb
    refine Ev.step (fun k => by rw [spec_l2Holds.j0]) ?_
    unfold holdB
    by_cases c : kind = 1 ∨ kind = 3
    · rw [if_pos c]
      refine ev_if_pos (hb.2 c) ?_
      cases has with
      | true => exact ev_if_pos rfl (Ev.bind (l2Among_ev _ _ h) (Ev.now _))
      | false => exact ev_if_neg Bool.false_ne_true (Ev.now _)
    · rw [if_neg c]
      refine ev_if_neg (fun e => c (hb.1 e)) ?_
      by_cases c2 : kind = 2
      · rw [if_pos c2]
        refine ev_if_pos c2 ?_
        cases has with
        | true => exact ev_if_pos rfl (Ev.bind (l2Among_ev _ _ h) (Ev.now _))
        | false => exact ev_if_neg Bool.false_ne_true (Ev.now _)
      · rw [if_neg c2]
        refine ev_if_neg c2 ?_
        by_cases c4 : kind = 4
        · exact ev_rw (ev_if_pos c4 (Ev.now _)) (if_pos c4).symm
        · exact ev_rw (ev_if_neg c4 (Ev.now _)) (if_neg c4).symm
  unfold spec_l2Holds.f
  exact ev_if (fun c => j _ (by simp [c])) (fun c => j _ (by simp [c]))
theorem implHolds_ev (x : ITerm) (labs : List ILab) (h : x.f2.length ≤ 9223372036854775807) (hl : labs.length ≤ 9223372036854775807) :
    Ev (fun k => impl_holds.f k x.f0 x.f1 x.f2 labs) (holdB x.f0 (labGet labs x.f1).2 (amongB x.f2 (labGet labs x.f1).1)) := by
  unfold impl_holds.f
  refine Ev.bind (implLabelGet_ev labs x.f1 hl) ?_
  generalize labGet labs x.f1 = g
  obtain ⟨v, has⟩ := g
  have j : ∀ am t : Bool, t = (has && am) → Ev (fun k => impl_holds.j0 k has t x.f0 x.f1 x.f2) (holdB x.f0 has am) := by
    intro am t ht
    refine Ev.step (fun k => by rw [impl_holds.j0]) ?_
    have j1 : ∀ b : Bool, (b = true ↔ x.f0 = 1 ∨ x.f0 = 3) → Ev (fun k => impl_holds.j1 k has t x.f0 b) (holdB x.f0 has am) := by
      intro b hb
      refine Ev.step (fun k => by rw [impl_holds.j1]) ?_
      unfold holdB
      by_cases c : x.f0 = 1 ∨ x.f0 = 3
      · rw [if_pos c]; exact ev_if_pos (hb.2 c) (ev_some ht)
      · rw [if_neg c]
        refine ev_if_neg (fun e => c (hb.1 e)) ?_
        by_cases c2 : x.f0 = 2
        · exact ev_rw (ev_if_pos c2 (ev_some (by rw [ht]))) (if_pos c2).symm
        · refine ev_rw (ev_if_neg c2 ?_) (if_neg c2).symm
          by_cases c4 : x.f0 = 4
          · exact ev_rw (ev_if_pos c4 (Ev.now _)) (if_pos c4).symm
          · exact ev_rw (ev_if_neg c4 (Ev.now _)) (if_neg c4).symm
    exact ev_if (fun c => j1 _ (by simp [c])) (fun c => j1 _ (by simp [c]))
  cases has with
  | true => exact ev_if_pos rfl (Ev.bind (containsStr_ev _ _ h) (j _ _ (by simp)))
  | false => exact ev_if_neg Bool.false_ne_true (j _ _ (by simp))
def holdsB (x : ITerm) (labs : List ILab) : Bool := holdB x.f0 (labGet labs x.f1).2 (amongB x.f2 (labGet labs x.f1).1)
def matchB (xs : List ITerm) (labs : List ILab) : Bool := selB xs && (labsB labs && allN xs.length (fun i => holdsB (rd_T52 xs i) labs))
theorem specMatches_ev (xs : List ITerm) (labs : List ILab) (hx : wfITerms xs) (hl : wfILabs labs) : Ev (fun k => spec_Matches.f k xs labs) (matchB xs labs) := by
  have hbad : ∀ r, r = false → Ev (fun k => spec_Matches.j0 k xs labs true) r := by
    intro r hr; rw [hr]; exact Ev.step (fun k => by rw [spec_Matches.j0]) (ev_if_pos rfl (Ev.now _))
  unfold spec_Matches.f matchB
  refine Ev.bind (specSelectorOk_ev xs hx) ?_
  cases selB xs with
  | false => exact ev_if_neg Bool.false_ne_true (hbad _ rfl)
  | true =>
    refine ev_if_pos rfl (Ev.bind (specLabelsOk_ev labs hl) ?_)
    cases labsB labs with
    | false => exact hbad _ rfl
    | true =>
      refine Ev.step (fun k => by rw [spec_Matches.j0]) (ev_if_neg (c := (!true) = true) (by simp) ?_)
      have key := loop_all (g := fun k i => spec_Matches.l0 k xs labs i) xs.length (fun i => holdsB (rd_T52 xs i) labs) true ?_ ?_ ?_
      · rw [Bool.and_true] at key; exact key
      · intro i hi hok r hr
        refine Ev.step (fun k => by rw [spec_Matches.l0]) ?_
        simp only [wsucc hi hx.1]
        exact ev_if_pos (by omega) (ev_if_pos (by omega) (Ev.bind (specLabelGet_ev _ _ hl.1) (Ev.bind (l2Holds_ev _ _ _ _ _ (by rw [rdIT hi]; exact (hx.2 _ (List.getElem_mem hi)).2.1)) (ev_if_pos hok hr))))
      · intro i hi hok
        refine Ev.step (fun k => by rw [spec_Matches.l0]) ?_
        exact ev_if_pos (by omega) (ev_if_pos (by omega) (Ev.bind (specLabelGet_ev _ _ hl.1) (Ev.bind (l2Holds_ev _ _ _ _ _ (by rw [rdIT hi]; exact (hx.2 _ (List.getElem_mem hi)).2.1)) (ev_if_neg (by unfold holdsB at hok; rw [hok]; exact Bool.false_ne_true) (Ev.now _)))))
      · exact Ev.step (fun k => by rw [spec_Matches.l0]) (ev_if_neg (by omega) (Ev.now _))
theorem implMatches_ev (xs : List ITerm) (labs : List ILab) (hx : wfITerms xs) (hl : wfILabs labs) : Ev (fun k => impl_Matches.f k xs labs) (matchB xs labs) := by
  unfold impl_Matches.f matchB
  refine Ev.bind (implSelectorOk_ev xs hx) ?_
  cases selB xs with
  | false => exact ev_if_neg Bool.false_ne_true (Ev.now _)
  | true =>
    refine ev_if_pos rfl (Ev.bind (implLabelsOk_ev labs hl) ?_)
    cases labsB labs with
    | false => exact ev_if_neg Bool.false_ne_true (Ev.now _)
    | true =>
      refine ev_if_pos rfl ?_
      obtain ⟨r, hr, he⟩ := idxO_ev (p := fun k (x : ITerm) => (impl_holds.f k x.f0 x.f1 x.f2 labs).map (!·)) (q := fun x => !holdsB x labs) xs 0 (fun x hx' => by
        exact ev_map (!·) (implHolds_ev x labs (hx.2 x hx').2.1 hl.1))
      refine Ev.bind hr (ev_some ?_)
      rw [he, any_allN xs (fun x => holdsB x labs) (fun i => rd_T52 xs i) (fun i hi => rdIT hi)]
      simp
def wfLTerms (xs : List LTerm) : Prop := xs.length ≤ 9223372036854775807 ∧ ∀ x ∈ xs, wfTerm x
theorem terms_small {xs : List LTerm} {left : Int} (h1 : left ≤ 1048576) (h : 0 ≤ szR left (totTerms xs)) : xs.length ≤ 1048576 ∧ (∀ x ∈ xs, smTerm x) := by
  have h := szR_nonneg h
  unfold totTerms at h
  refine ⟨by omega, fun x hx => ?_⟩
  have := le_sum_map totTerm hx
  have h2 : totTerm x = x.f1.size + (x.f2.length + (x.f2.map ByteArray.size).sum) := rfl
  unfold smTerm; omega
theorem wfITerms_of {xs : List LTerm} (h : wfLTerms xs) : wfITerms (xs.map cTerm) := by
  refine ⟨by simpa using h.1, fun y hy => ?_⟩
  obtain ⟨x, hx, rfl⟩ := List.mem_map.1 hy
  obtain ⟨_, a, b⟩ := h.2 x hx
  exact ⟨a, b⟩
theorem wfILabs_of {xs : List LLab} (h : xs.length ≤ 9223372036854775807 ∧ ∀ x ∈ xs, wfLab x) : wfILabs (xs.map cLab) := by
  refine ⟨by simpa using h.1, fun y hy => ?_⟩
  obtain ⟨x, hx, rfl⟩ := List.mem_map.1 hy
  exact h.2 x hx
theorem FnExactMatches_pure (l0 : List LTerm) (l1 : List LLab) (hw : wfLTerms l0) (hw1 : l1.length ≤ 9223372036854775807 ∧ ∀ x ∈ l1, wfLab x) : ∃ k, laws_FnExactMatches.f k l0 l1 = some true := by
  refine Ev.rounds ?_
  unfold laws_FnExactMatches.f
  refine Ev.bind (szTermS_ev l0 1048576 hw.2 hw.1 (by omega) (by omega)) ?_
  by_cases c : szR 1048576 (totTerms l0) < 0
  · exact ev_if_pos c (Ev.now _)
  obtain ⟨hl0, hs0⟩ := terms_small (by omega) (by omega : 0 ≤ szR 1048576 (totTerms l0))
  have hle := szR_le (by omega : (0:Int) ≤ 1048576) (totTerms l0)
  refine ev_if_neg c (Ev.bind (szLabelS_ev l1 _ hw1.2 hw1.1 (by omega) (by omega)) ?_)
  by_cases c2 : szR (szR 1048576 (totTerms l0)) (totLabs l1) < 0
  · exact ev_if_pos c2 (Ev.now _)
  have hl1 : l1.length ≤ 1048576 := by
    have := szR_nonneg (by omega : 0 ≤ szR (szR 1048576 (totTerms l0)) (totLabs l1))
    unfold totLabs at this; omega
  have hx := wfITerms_of hw
  have hy := wfILabs_of hw1
  have e1 := eqTermS_ev (l0.map cTerm) (fun x hx' => (hx.2 x hx').2.1) hx.1
  have e2 := eqLabelS_ev (l1.map cLab) hy.1
  have t0 := toTermS_ev l0 hs0 hl0
  have t1 := toLabelS_ev l1 hl1
  refine ev_if_neg c2 (Ev.bind t0 (Ev.bind t1 (Ev.bind (specMatches_ev _ _ hx hy) (Ev.bind t0 (Ev.bind t1 (Ev.bind (implMatches_ev _ _ hx hy) (ev_if_neg (by simp) ?_)))))))
  exact Ev.bind t0 (Ev.bind e1 (ev_if_pos rfl (Ev.bind t1 (Ev.bind e2 (ev_if_pos rfl (Ev.now _))))))
end Go.Proofs.Ytpjpnppoejnafaa.G

/- GKOpen -/
/-
  An argument that can be read as data (the form's own reading) is of a kind 'Kd'; and what is known of it besides ('Wf').
-/
namespace Go.Proofs.Ytpjpnppoejnafaa.G
open Go.RowKit Go.Proofs.YtpjpnppoejnafaaW.PrintWords Go.Proofs.YtpjpnppoejnafaaW.PrintLast Go.Proofs.YtpjpnppoejnafaaW.PrintMore
set_option linter.unusedVariables false
section
variable {H : Type} {enc : TypeId × Value → H} {P : Program} {w : World} {base : Nat} {spare : Nat → Bool} {held : Bool}
def KOpens {α : Type} (enc : TypeId × Value → H) (P : Program) (w : World) (base : Nat) (spare : Nat → Bool) (held : Bool) (n : Nat) (t : TypeId) (k : Kd α) (Wf : α → Prop) : Prop :=
  ∀ cs x, DataW.trod enc P w base spare held n t cs = some x → ∃ a, Wf a ∧ k.K w a cs
def wfInt (i : Int) : Prop := -9223372036854775808 ≤ i ∧ i ≤ 9223372036854775807
def wfStr (s : ByteArray) : Prop := s.size ≤ 9223372036854775807
def wfAll {α : Type} (Wf : α → Prop) (xs : List α) : Prop := xs.length ≤ 9223372036854775806 ∧ ∀ x ∈ xs, Wf x
theorem kopens_int {n : Nat} {t : TypeId} (ht : P.underlying t = some (.int .i64)) : KOpens enc P w base spare held n t (Kd.int .i64) wfInt := by
  intro cs x h
  obtain ⟨i, rfl, _, hw⟩ := DataW.trod_int ht h
  have m1 : IntKind.i64.min = -9223372036854775808 := by decide
  have m2 : IntKind.i64.max = 9223372036854775807 := by decide
  simp only [Lit.wf, Bool.and_eq_true, decide_eq_true_eq, m1, m2] at hw
  exact ⟨i, hw, rfl⟩
theorem kopens_u8 {n : Nat} {t : TypeId} (ht : P.underlying t = some (.int .u8)) : KOpens enc P w base spare held n t (Kd.int .u8) (fun i => 0 ≤ i ∧ i ≤ 255) := by
  intro cs x h
  obtain ⟨i, rfl, _, hw⟩ := DataW.trod_int ht h
  have m1 : IntKind.u8.min = 0 := by decide
  have m2 : IntKind.u8.max = 255 := by decide
  simp only [Lit.wf, Bool.and_eq_true, decide_eq_true_eq, m1, m2] at hw
  exact ⟨i, hw, rfl⟩
theorem kopens_bool {n : Nat} {t : TypeId} (ht : P.underlying t = some .bool) : KOpens enc P w base spare held n t Kd.bool (fun _ => True) := by
  intro cs x h
  obtain ⟨i, rfl, _⟩ := DataW.trod_bool ht h
  exact ⟨i, trivial, rfl⟩
theorem kopens_str {n : Nat} {t : TypeId} (ht : P.underlying t = some .string) : KOpens enc P w base spare held n t Kd.string wfStr := by
  intro cs x h
  obtain ⟨i, rfl, _, hw⟩ := DataW.trod_string ht h
  unfold maxLen at hw
  exact ⟨i, hw, rfl⟩
theorem list_pick {α : Type} {P : Nat → α → Prop} : ∀ (n : Nat), (∀ i, i < n → ∃ a, P i a) → ∃ xs : List α, xs.length = n ∧ ∀ i (h : i < xs.length), P i xs[i]
  | 0, _ => ⟨[], rfl, by simp⟩
  | n + 1, h => by
    obtain ⟨xs, hl, hx⟩ := list_pick (P := P) n (fun i hi => h i (by omega))
    obtain ⟨a, ha⟩ := h n (by omega)
    refine ⟨xs ++ [a], by simp [hl], fun i hi => ?_⟩
    by_cases hin : i < xs.length
    · rw [List.getElem_append_left hin]; exact hx i hin
    · have : i = n := by simp at hi; omega
      subst this
      rw [List.getElem_append_right (by omega)]
      simpa using ha
theorem kopens_slice {α : Type} {n : Nat} {t e : TypeId} {k : Kd α} {Wf : α → Prop} (ht : P.underlying t = some (.slice e)) (hsz : P.cellsOf e = k.sz) (hpos : 0 < k.sz) (hby : ∀ xs : List α, True → True)
    (ho : ∀ m, m < n → KOpens enc P w base spare held m e k Wf) : KOpens enc P w base spare held n t (Kd.slice e k) (fun xs => xs.length ≤ 9223372036854775807 ∧ ∀ x ∈ xs, Wf x) := by
  intro cs x h
  rcases DataW.trod_slice ht h with ⟨rfl, _⟩ | ⟨a, len, cap, elems, rest, m, hn, rfl, _, hb, hl, hm, hlen, hel, _, _⟩
  · exact ⟨[], ⟨by simp, by simp⟩, none, 0, rfl, by simp, rfl, by simp, fun h => absurd h (by simp)⟩
  · unfold maxLen at hm
    have get : ∀ i, i < len → ∃ p : α, Wf p ∧ ∃ cs', w.cells? base (a.add (i * k.sz)) k.sz = some cs' ∧ k.K w p cs' := by
      intro i hi
      have h1 := hel i hi
      rw [hsz, List.getElem?_eq_getElem (by omega), Option.bind_eq_some_iff] at h1
      obtain ⟨cs', h1, h2⟩ := h1
      obtain ⟨p, hp, hK⟩ := ho m (by omega) _ _ h2
      exact ⟨p, hp, cs', h1, hK⟩
    obtain ⟨xs, hxl, hxs⟩ := list_pick len get
    refine ⟨xs, ⟨by omega, fun p hp => ?_⟩, some a, cap, by rw [hxl], by omega, rfl, by omega, fun _ => ⟨a, rfl, fun j p hj => ?_⟩⟩
    · obtain ⟨i, hi, rfl⟩ := List.getElem_of_mem hp
      exact (hxs i hi).1
    · obtain ⟨hjl, rfl⟩ := List.getElem?_eq_some_iff.1 hj
      obtain ⟨_, cs', hc, hK⟩ := hxs j hjl
      obtain ⟨_, hl', hat'⟩ := World.cells?_some hc
      refine ⟨cs', k.K_len hK, hK, fun i u hu => ?_⟩
      have hi := (List.getElem?_eq_some_iff.1 hu).1
      have h3 := hat' i (by rw [k.K_len hK] at hi; exact hi)
      rw [hu] at h3
      have ha : (a.add (j * k.sz)).add i = a.add (j * k.sz + i) := by
        unfold Addr.add
        by_cases h1 : j * k.sz = 0 <;> by_cases h2 : i = 0 <;> simp [h1, h2, Nat.add_assoc]
      rw [ha] at h3
      exact h3
/-- Fields, one behind the other from offset o on. -/
def KFields {α : Type} (enc : TypeId × Value → H) (P : Program) (w : World) (base : Nat) (spare : Nat → Bool) (held : Bool) (n : Nat) (fs : List (TypeId × Nat)) (o : Nat) (k : Kd α) (Wf : α → Prop) : Prop :=
  ∀ cs : List Value, cs.length = o + k.sz → (∀ f, f ∈ fs → ∃ x, DataW.trod enc P w base spare held n f.1 ((cs.drop f.2).take (P.cellsOf f.1)) = some x) → ∃ a, Wf a ∧ k.K w a (cs.drop o)
theorem kfields_one {α : Type} {n : Nat} {t : TypeId} {o : Nat} {k : Kd α} {Wf : α → Prop} (hsz : P.cellsOf t = k.sz) (h : KOpens enc P w base spare held n t k Wf) : KFields enc P w base spare held n [(t, o)] o k Wf := by
  intro cs hl hx
  obtain ⟨x, hx⟩ := hx (t, o) (by simp)
  simp only [hsz] at hx
  rw [List.take_of_length_le (by rw [List.length_drop]; omega)] at hx
  exact h _ _ hx
theorem kfields_cons {α β : Type} {n : Nat} {t : TypeId} {o o' : Nat} {fs : List (TypeId × Nat)} {k : Kd α} {k' : Kd β} {Wf : α → Prop} {Wf' : β → Prop} (hsz : P.cellsOf t = k.sz) (ho : o' = o + k.sz) (h : KOpens enc P w base spare held n t k Wf) (hs : KFields enc P w base spare held n fs o' k' Wf') :
    KFields enc P w base spare held n ((t, o) :: fs) o (Kd.pair k k') (fun p => Wf p.1 ∧ Wf' p.2) := by
  intro cs hl hx
  subst ho
  obtain ⟨x, h0⟩ := hx (t, o) (by simp)
  simp only [hsz] at h0
  obtain ⟨a, ha, hK⟩ := h _ _ h0
  have hl' : cs.length = o + (k.sz + k'.sz) := hl
  obtain ⟨b, hb, hK'⟩ := hs cs (by omega) (fun f hf => hx f (by simp [hf]))
  refine ⟨(a, b), ⟨ha, hb⟩, _, _, ?_, hK, hK'⟩
  rw [← List.drop_drop, List.take_append_drop]
theorem kopens_struct {α β : Type} {n : Nat} {t : TypeId} {fs : Array Field} {k : Kd α} {f : β → α} {g : α → β} {Wf : α → Prop} (hfg : ∀ a, f (g a) = a) (ht : P.underlying t = some (.struct fs)) (hc : P.cellsOf t = k.sz)
    (hs : ∀ m, m + 1 = n → KFields enc P w base spare held m (fs.toList.map fun f => (f.type, f.offset)) 0 k Wf) : KOpens enc P w base spare held n t (Kd.iso k f) (fun b => Wf (f b)) := by
  intro cs x h
  obtain ⟨xs, m, hn, _, hcl, hxl, hg⟩ := DataW.trod_struct ht h
  obtain ⟨a, ha, hK⟩ := hs m hn.symm cs (by rw [hcl, hc]; omega) (fun q hq => by
    obtain ⟨fl, hfl, rfl⟩ := List.mem_map.1 hq
    obtain ⟨i, hi, rfl⟩ := List.getElem_of_mem hfl
    have hi' : i < fs.size := by simpa using hi
    have := hg i fs[i] (by simp [hi'])
    refine ⟨xs[i]'(by rw [hxl]; exact hi'), ?_⟩
    rw [Array.getElem_toList, this]
    exact List.getElem?_eq_getElem (by rw [hxl]; exact hi'))
  rw [List.drop_zero] at hK
  refine ⟨g a, ?_, ?_⟩
  · show Wf (f (g a)); rw [hfg]; exact ha
  · show k.K w (f (g a)) cs; rw [hfg]; exact hK
end
end Go.Proofs.Ytpjpnppoejnafaa.G

/- GKArgs -/
/-
  The arguments of the laws, opened: at this dump's type numbers.
-/
namespace Go.Proofs.Ytpjpnppoejnafaa.G
open Go.RowKit Go.Proofs.YtpjpnppoejnafaaW.PrintWords Go.Proofs.YtpjpnppoejnafaaW.PrintLast Go.Proofs.YtpjpnppoejnafaaW.PrintMore
set_option linter.unusedVariables false
theorem int_wf {n : Int} (h : (Lit.int .i64 n).wf = true) : -9223372036854775808 ≤ n ∧ n ≤ 9223372036854775807 := by
  have m1 : IntKind.i64.min = -9223372036854775808 := by decide
  have m2 : IntKind.i64.max = 9223372036854775807 := by decide
  simpa only [Lit.wf, Bool.and_eq_true, decide_eq_true_eq, m1, m2] using h
section
variable {H : Type} {enc : TypeId × Value → H} {w : World} {base : Nat} {spare : Nat → Bool} {held : Bool} {v : Value} {d : DataW H} {p : List MemPlace} {r : Reach} {b0 : Nat}
set_option maxRecDepth 20000 in
/-- A slice of such elements. -/
theorem kopen_of {α : Type} {t e : TypeId} {k : Kd α} {Wf : α → Prop} (ht : Try.prog.underlying t = some (.slice e)) (hsz : Try.prog.cellsOf e = k.sz) (hpos : 0 < k.sz) (ho : ∀ m, KOpens enc Try.prog w base spare held m e k Wf)
    (hv : Value.okWide Try.prog w r b0 t v) (h : DataW.Trod enc Try.prog w base spare held t v d p) :
    ∃ (xs : List α) (A : Option Addr) (c : Nat), v = .slice A xs.length c ∧ (xs.length ≤ 9223372036854775807 ∧ ∀ x ∈ xs, Wf x) ∧ xs.length ≤ c ∧ Kd.C k w A xs.length xs := by
  obtain ⟨A, n, c, rfl⟩ := Go.WideShapes.okWide_slice ht hv
  obtain ⟨fuel, h⟩ := h
  obtain ⟨xs, hw, A', c', he, hl, hC⟩ := kopens_slice ht hsz hpos (fun _ _ => trivial) (fun m _ => ho m) _ _ h
  have he' : [Value.slice A n c] = [Value.slice A' xs.length c'] := he
  simp only [List.cons.injEq, and_true] at he'
  exact ⟨xs, A', c', he', hw, hl, hC⟩
set_option maxRecDepth 20000 in
theorem kopens_lab (m : Nat) : KOpens enc Try.prog w base spare held m 55 k55 (fun x => wfStr x.f0 ∧ wfStr x.f1) :=
  kopens_struct (g := fun (p : ByteArray × ByteArray) => (⟨p.1, p.2⟩ : S55)) (Wf := fun (p : ByteArray × ByteArray) => wfStr p.1 ∧ wfStr p.2) (fun _ => rfl) Try.underlying55 (by kernel_rfl) (fun m _ => kfields_cons (o' := 1) (by kernel_rfl) rfl (kopens_str Try.underlying9) (kfields_one (by kernel_rfl) (kopens_str Try.underlying9)))
set_option maxRecDepth 20000 in
theorem kopen_labels (hv : Value.okWide Try.prog w r b0 22 v) (h : DataW.Trod enc Try.prog w base spare held 22 v d p) :
    ∃ (xs : List S55) (A : Option Addr) (c : Nat), v = .slice A xs.length c ∧ (xs.length ≤ 9223372036854775807 ∧ ∀ x ∈ xs, wfStr x.f0 ∧ wfStr x.f1) ∧ xs.length ≤ c ∧ Kd.C k55 w A xs.length xs :=
  kopen_of Try.underlying22 (by kernel_rfl) (by decide) kopens_lab hv h
set_option maxRecDepth 20000 in
theorem kopens_term (m : Nat) : KOpens enc Try.prog w base spare held m 73 k73 (fun x => wfInt x.f0 ∧ wfStr x.f1 ∧ (x.f2.length ≤ 9223372036854775807 ∧ ∀ y ∈ x.f2, wfStr y)) :=
  kopens_struct (g := fun (p : Int × ByteArray × List ByteArray) => (⟨p.1, p.2.1, p.2.2⟩ : S73)) (Wf := fun (p : Int × ByteArray × List ByteArray) => wfInt p.1 ∧ wfStr p.2.1 ∧ (p.2.2.length ≤ 9223372036854775807 ∧ ∀ y ∈ p.2.2, wfStr y)) (fun _ => rfl) Try.underlying73 (by kernel_rfl)
    (fun m _ => kfields_cons (o' := 1) (by kernel_rfl) rfl (kopens_int Try.underlying3) (kfields_cons (o' := 2) (by kernel_rfl) rfl (kopens_str Try.underlying9) (kfields_one (by kernel_rfl) (kopens_slice Try.underlying50 (by kernel_rfl) (by decide) (fun _ _ => trivial) (fun m _ => kopens_str Try.underlying9)))))
set_option maxRecDepth 20000 in
theorem kopen_terms (hv : Value.okWide Try.prog w r b0 35 v) (h : DataW.Trod enc Try.prog w base spare held 35 v d p) :
    ∃ (xs : List S73) (A : Option Addr) (c : Nat), v = .slice A xs.length c ∧ (xs.length ≤ 9223372036854775807 ∧ ∀ x ∈ xs, wfInt x.f0 ∧ wfStr x.f1 ∧ (x.f2.length ≤ 9223372036854775807 ∧ ∀ y ∈ x.f2, wfStr y)) ∧ xs.length ≤ c ∧ Kd.C k73 w A xs.length xs :=
  kopen_of Try.underlying35 (by kernel_rfl) (by decide) kopens_term hv h
set_option maxRecDepth 20000 in
theorem kopen_bytes (hv : Value.okWide Try.prog w r b0 45 v) (h : DataW.Trod enc Try.prog w base spare held 45 v d p) :
    ∃ (xs : List Int) (A : Option Addr) (c : Nat), v = .slice A xs.length c ∧ (xs.length ≤ 9223372036854775807 ∧ ∀ x ∈ xs, 0 ≤ x ∧ x ≤ 255) ∧ xs.length ≤ c ∧ Kd.C (Kd.int .u8) w A xs.length xs :=
  kopen_of Try.underlying45 (by kernel_rfl) (by decide) (fun m => kopens_u8 Try.underlying5) hv h
set_option maxRecDepth 20000 in
theorem kopen_strs (hv : Value.okWide Try.prog w r b0 50 v) (h : DataW.Trod enc Try.prog w base spare held 50 v d p) :
    ∃ (xs : List ByteArray) (A : Option Addr) (c : Nat), v = .slice A xs.length c ∧ (xs.length ≤ 9223372036854775807 ∧ ∀ x ∈ xs, wfStr x) ∧ xs.length ≤ c ∧ Kd.C Kd.string w A xs.length xs :=
  kopen_of Try.underlying50 (by kernel_rfl) (by decide) (fun m => kopens_str Try.underlying9) hv h
end
end Go.Proofs.Ytpjpnppoejnafaa.G

/- RowFnExactMatches -/
/- The law 'FnExactMatches' holds for every input: it returns true, and each argument reads behind the call as it read before. No condition. -/
namespace Go.Proofs.Ytpjpnppoejnafaa.fnExactMatches
open Go.ChangeShapes Go.WideShapes Go.ChangeAt Go.RowKit
set_option linter.unusedVariables false
theorem own : ownKnob Try.prog.godebug = none := by kernel_rfl
theorem laidOut : laidOutB Try.prog = true := by kernel_rfl
set_option maxRecDepth 100000 in
theorem lifted (os : Os) (started : os.Started) (H : Type) (enc : TypeId × Value → H) :
    ReturnsInHanded {} Try.checked os 9 .any (Rows.fnExactMatchesSpec.pre6 enc Try.prog Try.f9 Rows.fnExactMatchesRow.domain false) (Rows.fnExactMatchesSpec.post enc Try.prog Try.f9 false true false false) := by
  refine returnsInHanded_of_change (C := Try.checked) own started (by kernel_rfl) Try.func9
    (ChangeSpec.witness6 (enc := enc) (C := Try.checked) false ⟨#[], #[.slice none 0 0, .slice none 0 0], []⟩ 8 (by kernel_rfl) (by kernel_rfl) (by kernel_rfl) (by kernel_rfl)) ?_
  intro W base args ds gs before hval0 hW hcnd _
  have hval : ∀ (j : Nat) t v, Try.f9.params[j]? = some t → args[j]? = some v → Value.okWide Try.prog W .any base t v := hval0
  have hW' := hW
  obtain ⟨p, q, hA0, hV, rfl, hfz, hnd⟩ := hW
  have hA : DataW.TrodAll enc Try.prog W 0 (fun _ => true) true Try.f9.params.toList args.toList ds p := hA0
  rw [Try.params9] at hA hval
  obtain ⟨v0, vs0, d0, ds0, p0, q0, hargs0, rfl, rfl, h0, r0x⟩ := trodAll_cons hA
  obtain ⟨v1, vs1, d1, ds1, p1, q1, hargs1, rfl, rfl, h1, r1x⟩ := trodAll_cons r0x
  obtain ⟨rfl, rfl, rfl⟩ := trodAll_nil r1x
  obtain rfl : args = #[v0, v1] := by cases args; simp_all
  obtain ⟨rfl, rfl⟩ := trodVars_none hV
  have hlt := hW'.lt
  have hk0 := h0
  have hk1 := h1
  obtain ⟨x0, A0, c0, rfl, w0, l0, q0⟩ := G.kopen_terms (hval 0 35 v0 rfl rfl) h0
  obtain ⟨x1, A1, c1, rfl, w1, l1, q1⟩ := G.kopen_labels (hval 1 22 v1 rfl rfl) h1
  clear hA0 hval0
  obtain ⟨k, hk⟩ := G.FnExactMatches_pure x0 x1 w0 w1
  refine (G.laws_FnExactMatches.calls k A0 c0 x0 A1 c1 x1 true W q0 l0 q1 l1 hk).mono fun e W' ⟨he, bel⟩ => ?_
  subst he
  exact ⟨_, rfl, _, _, _, [], _, [], hW', trodAll_mk1 (shut_bool Try.underlying4 _), (trodAll_cons_mk (Below.trod laidOut (by kernel_rfl) (of_decide_eq_true (by kernel_rfl)) hk0 bel (fun x hx => hlt x (by simp [hx]))) (trodAll_cons_mk (Below.trod laidOut (by kernel_rfl) (of_decide_eq_true (by kernel_rfl)) hk1 bel (fun x hx => hlt x (by simp [hx]))) trodAll_mk0)), rfl, bel.frame _, fun h => by cases h⟩
theorem over : Rows.fnExactMatchesRow.holds Try.pinned (OpenSpec.ofChange Rows.fnExactMatchesSpec) :=
  OpenClaim.holds_of_wide 9 Try.f9 rfl rfl rfl rfl rfl rfl rfl ⟨rfl, rfl, rfl, rfl, rfl⟩ rfl rfl rfl rfl rfl (by kernel_rfl) Try.func9 (by kernel_rfl)
    (of_decide_eq_true (by kernel_rfl)) (by unfold Func.isWrapper; first | (rw [if_pos (by decide +kernel)]; kernel_rfl) | (rw [if_neg (by decide +kernel)]; exact ⟨rfl, rfl⟩))
    (fun os started H enc _ => lifted os started H enc)
theorem proved : Rows.FnExactMatchesSaid := over
#print axioms proved
end Go.Proofs.Ytpjpnppoejnafaa.fnExactMatches
namespace Go.Proofs.Ytpjpnppoejnafaa
theorem fnExactMatches_holds : Rows.FnExactMatchesSaid := fnExactMatches.proved
end Go.Proofs.Ytpjpnppoejnafaa
