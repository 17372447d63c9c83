import Derived.Test.YteilcchcekmooaaMFnExactDivide8
import Derived.Test.YteilcchcekmooaaMFnExactDivide1
import Derived.ChangeArms
import Derived.ChangeShapes
import Derived.DataReads
/- PDivD -/
/-
  Shares: the program's round; all rounds; what a division answers.
-/
namespace Go.Proofs.Yteilcchcekmooaa.G
open Go.RowKit Go.Sort Go.Proofs.YteilcchcekmooaaW.PrintWords Go.Proofs.YteilcchcekmooaaW.PrintLast Go.Proofs.YteilcchcekmooaaW.PrintMore
set_option linter.unusedVariables false
set_option linter.unusedSimpArgs false
theorem sumR_one (f : Nat → Int) (b : Nat) (v : Int) : ∀ n, b < n → sumR (fun j => if j = b then f j + v else f j) n = sumR f n + v
  | n + 1, h => by
    rw [sumR, sumR]
    by_cases e : n = b
    · subst e
      rw [if_pos rfl, sumR_congr (g := f) (fun j hj => if_neg (by omega))]
      omega
    · rw [if_neg e, sumR_one f b v n (by omega)]
      omega
section
variable {n : Int} {ws cs : List Int} {o : Nat → Int}
theorem quoL_rd (h : ShOk n ws cs) (hc : 0 < cnt (opnF ws cs o) ws.length) {j : Nat} (hj : j < ws.length) (hp : opnF ws cs o j = true) : rd (quoL n ws (opI (opnF ws cs o) ws.length)) ((cnt (opnF ws cs o) j : Nat) : Int) = wantO n ws cs o j := by
  have HP := qpre h hc
  have hlb := left_bound HP
  have hl := opI_len (p := opnF ws cs o) ws.length
  have hcj := cnt_lt hj hp
  have e : quoL n ws (opI (opnF ws cs o) ws.length) = mapR (opI (opnF ws cs o) ws.length).length (fun k => qQ n ws (opI (opnF ws cs o) ws.length) k + if (rankQ n ws (opI (opnF ws cs o) ws.length) k : Int) < leftQ n ws (opI (opnF ws cs o) ws.length) (opI (opnF ws cs o) ws.length).length then 1 else 0) := rfl
  rw [e, mapR_rd _ (by omega)]
  unfold wantO wantF leftN
  rw [if_pos hp]
  congr 1
  by_cases c : (rankQ n ws (opI (opnF ws cs o) ws.length) (cnt (opnF ws cs o) j) : Int) < leftQ n ws (opI (opnF ws cs o) ws.length) (opI (opnF ws cs o) ws.length).length
  · rw [if_pos c, if_pos (by omega)]
  · rw [if_neg c, if_neg (by omega)]
/-- What the first k of the open ones have taken. -/
def doneF (n : Int) (ws cs : List Int) (o : Nat → Int) (k j : Nat) : Int := if opnF ws cs o j = true ∧ cnt (opnF ws cs o) j < k then takeF n ws cs o j else 0
theorem doneF_bound (h : ShOk n ws cs) (S : Shr ws cs o) (hc : 0 < cnt (opnF ws cs o) ws.length) (k : Nat) : 0 ≤ sumR (doneF n ws cs o k) ws.length ∧ sumR (doneF n ws cs o k) ws.length ≤ 10000 * ws.length := by
  have hs := sum_bound h S hc ws.length (Nat.le_refl _)
  have hf : ∀ j, j < ws.length → 0 ≤ doneF n ws cs o k j ∧ doneF n ws cs o k j ≤ takeF n ws cs o j := fun j hj => by
    have := take_bound h S hc hj
    unfold doneF
    split <;> omega
  have h1 := sumR_nonneg (fun j hj => (hf j hj).1)
  have h2 := sumR_le (fun j hj => (hf j hj).2)
  omega
theorem doneF_all (S : Shr ws cs o) {j : Nat} (hj : j < ws.length) : doneF n ws cs o (cnt (opnF ws cs o) ws.length) j = takeF n ws cs o j := by
  unfold doneF
  by_cases hp : opnF ws cs o j = true
  · rw [if_pos ⟨hp, cnt_lt hj hp⟩]
  · rw [if_neg (fun hh => hp hh.1), take_closed S hj hp]
theorem doneF_step {b : Nat} (hb : b < ws.length) (hp : opnF ws cs o b = true) (j : Nat) : doneF n ws cs o (cnt (opnF ws cs o) b + 1) j = if j = b then doneF n ws cs o (cnt (opnF ws cs o) b) j + takeF n ws cs o b else doneF n ws cs o (cnt (opnF ws cs o) b) j := by
  unfold doneF
  by_cases e : j = b
  · subst e
    rw [if_pos rfl, if_pos ⟨hp, by omega⟩, if_neg (by omega)]; omega
  · rw [if_neg e]
    by_cases c : opnF ws cs o j = true ∧ cnt (opnF ws cs o) j < cnt (opnF ws cs o) b
    · rw [if_pos c, if_pos ⟨c.1, by omega⟩]
    · rw [if_neg c, if_neg (fun hh => ?_)]
      have : cnt (opnF ws cs o) j = cnt (opnF ws cs o) b := by
        have : ¬ cnt (opnF ws cs o) j < cnt (opnF ws cs o) b := fun hx => c ⟨hh.1, hx⟩
        omega
      exact e (cnt_inj hh.1 hp this)
/-- The program collects those that are open. -/
theorem implOpen (h : ShOk n ws cs) {W : List Int} (hW : ∀ {g : Nat → Option (List Int)}, (∀ k, g k = if ((opI (opnF ws cs o) ws.length).length : Int) = 0 then some (mapR ws.length o) else (impl_quotas.f n ws (opI (opnF ws cs o) ws.length)).bind fun t => impl_Divide.l2 k n ws cs (mapR ws.length o) (opI (opnF ws cs o) ws.length) t (t.length : Int) 0) → Ev g W) :
    ∀ d i, i + d = ws.length → Ev (fun k => impl_Divide.l1 k n ws cs (mapR ws.length o) (opI (opnF ws cs o) i) ws (ws.length : Int) (i : Int)) W := by
  have hl1 := h.l1
  have hl2 := h.l2
  intro d
  induction d with
  | zero =>
    intro i hi
    obtain rfl : i = ws.length := by omega
    exact Ev.step (fun k => by rw [impl_Divide.l1]) (ev_if_neg (by omega) (hW (fun k => rfl)))
  | succ d ih =>
    intro i hi
    have hiN : i < ws.length := by omega
    have ih := ih (i + 1) (by omega)
    have ro : rd (mapR ws.length o) (i : Int) = o i := mapR_rd _ hiN
    have hcl := cnt_le (p := opnF ws cs o) i
    rw [opI_succ] at ih
    refine Ev.step (fun k => by rw [impl_Divide.l1]) (ev_if_pos (by omega) (ev_if_pos (by omega) (ev_if_pos (by omega) ?_)))
    simp only [ro, wsucc hiN (by omega : ws.length ≤ 9223372036854775807)]
    by_cases c1 : rd ws (i : Int) > 0
    · refine ev_if_pos c1 (ev_if_pos (by rw [mapR_len]; omega) (ev_if_pos (by omega) ?_))
      by_cases c2 : o i < rd cs (i : Int)
      · rw [if_pos (opn_iff.2 ⟨c1, c2⟩)] at ih
        exact ev_if_pos c2 (ev_if_pos (by rw [opI_len]; omega) ih)
      · rw [if_neg (by rw [opn_iff]; omega), List.append_nil] at ih
        exact ev_if_neg c2 ih
    · rw [if_neg (by rw [opn_iff]; omega), List.append_nil] at ih
      exact ev_if_neg c1 ih
/-- The program's round. -/
theorem implRound (h : ShOk n ws cs) (S : Shr ws cs o) (hn : 0 < n) (hc : 0 < cnt (opnF ws cs o) ws.length) {W : List Int} (hW : Ev (fun k => impl_Divide.l0 k (n - sumR (takeF n ws cs o) ws.length) ws cs (mapR ws.length (fun j => o j + takeF n ws cs o j))) W) :
    Ev (fun k => impl_Divide.l0 k n ws cs (mapR ws.length o)) W := by
  have HP := qpre h hc
  have hl := opI_len (p := opnF ws cs o) ws.length
  have hl1 := h.l1
  have hl2 := h.l2
  have hql : (quoL n ws (opI (opnF ws cs o) ws.length)).length = cnt (opnF ws cs o) ws.length := by simp [quoL, hl]
  have l2 : ∀ d k0, k0 + d = cnt (opnF ws cs o) ws.length → Ev (fun k => impl_Divide.l2 k (n - sumR (doneF n ws cs o k0) ws.length) ws cs (mapR ws.length (fun j => o j + doneF n ws cs o k0 j)) (opI (opnF ws cs o) ws.length) (quoL n ws (opI (opnF ws cs o) ws.length)) ((quoL n ws (opI (opnF ws cs o) ws.length)).length : Int) (k0 : Int)) W := by
    intro d
    induction d with
    | zero =>
      intro k0 hk
      obtain rfl : k0 = cnt (opnF ws cs o) ws.length := by omega
      refine Ev.step (fun k => by rw [impl_Divide.l2]) (ev_if_neg (by omega) ?_)
      rw [sumR_congr (g := takeF n ws cs o) (fun j hj => doneF_all S hj), mapR_congr (g := fun j => o j + takeF n ws cs o j) (fun j hj => by rw [doneF_all S hj])]
      exact hW
    | succ d ih =>
      intro k0 hk
      obtain ⟨b, hb, hp, rfl⟩ := opI_at (p := opnF ws cs o) (N := ws.length) (k := k0) (by omega)
      have ih := ih (cnt (opnF ws cs o) b + 1) (by omega)
      have hbd := S.bnd b hb
      have hcc := h.c b hb
      have ht := take_bound h S hc hb
      have hs := doneF_bound h S hc (cnt (opnF ws cs o) b)
      have hn0 := h.n0
      have hn1 := h.n1
      have hi := opI_rd hb hp
      have hq := quoL_rd h hc hb hp
      have hd0 : doneF n ws cs o (cnt (opnF ws cs o) b) b = 0 := by unfold doneF; rw [if_neg (by omega)]
      have ro : rd (mapR ws.length (fun j => o j + doneF n ws cs o (cnt (opnF ws cs o) b) j)) (b : Int) = o b := by rw [mapR_rd _ hb, hd0]; omega
      have e1 : wrap64 (rd cs (b : Int) - o b) = rd cs (b : Int) - o b := w64 (by omega) (by omega)
      have et : mn (wantO n ws cs o b) (rd cs (b : Int) - o b) = takeF n ws cs o b := rfl
      have e2 : wrap64 (o b + takeF n ws cs o b) = o b + takeF n ws cs o b := w64 (by omega) (by omega)
      have so : (mapR ws.length (fun j => o j + doneF n ws cs o (cnt (opnF ws cs o) b) j)).set b (o b + takeF n ws cs o b) = mapR ws.length (fun j => o j + doneF n ws cs o (cnt (opnF ws cs o) b + 1) j) := by
        rw [mapR_set]
        refine mapR_congr (fun j hj => ?_)
        rw [doneF_step hb hp j]
        by_cases e : j = b
        · subst e; rw [if_pos rfl, if_pos rfl, hd0]; omega
        · rw [if_neg e, if_neg e]
      have ss : sumR (doneF n ws cs o (cnt (opnF ws cs o) b + 1)) ws.length = sumR (doneF n ws cs o (cnt (opnF ws cs o) b)) ws.length + takeF n ws cs o b := by
        rw [← sumR_one _ b _ ws.length hb]
        exact sumR_congr (fun j hj => doneF_step hb hp j)
      have e3 : wrap64 (n - sumR (doneF n ws cs o (cnt (opnF ws cs o) b)) ws.length - takeF n ws cs o b) = n - sumR (doneF n ws cs o (cnt (opnF ws cs o) b + 1)) ws.length := by rw [ss, w64 (by omega) (by omega)]; omega
      have hcb := cnt_lt hb hp
      have hcl := cnt_le (p := opnF ws cs o) ws.length
      refine Ev.step (fun k => by rw [impl_Divide.l2]) (ev_if_pos (by omega) (ev_if_pos (by omega) (ev_if_pos (by omega) (ev_if_pos (by omega) ?_))))
      simp only [hi]
      refine ev_if_pos (by omega) (ev_if_pos (by omega) (ev_if_pos (by rw [mapR_len]; omega) ?_))
      simp only [ro, hq, e1, et, e2, Int.toNat_natCast, so, e3, wsucc (show cnt (opnF ws cs o) b < cnt (opnF ws cs o) ws.length by omega) (by omega)]
      exact ih
  refine Ev.step (fun k => by rw [impl_Divide.l0]) (ev_if_pos hn ?_)
  have h1 := implOpen (o := o) h (W := W) (fun {g} hg => by
    refine Ev.congr hg (ev_if_neg (by omega) ?_)
    have hf : impl_quotas.f n ws (opI (opnF ws cs o) ws.length) = some (quoL n ws (opI (opnF ws cs o) ws.length)) := by unfold impl_quotas.f; rw [if_pos (quoOk_iff.2 HP)]
    simp only [hf, Option.bind_some]
    have h2 := l2 (cnt (opnF ws cs o) ws.length) 0 (by omega)
    have e0 : ∀ j, doneF n ws cs o 0 j = 0 := fun j => by unfold doneF; rw [if_neg (by omega)]
    rw [sumR_congr (g := fun _ => 0) (fun j hj => e0 j), sumR_zero, Int.sub_zero, mapR_congr (g := o) (fun j hj => by rw [e0]; omega)] at h2
    exact h2) ws.length 0 (by omega)
  exact h1
/-- The end: nothing is left. -/
theorem implEnd {l : List Int} : Ev (fun k => impl_Divide.l0 k 0 ws cs l) l := Ev.step (fun k => by rw [impl_Divide.l0]) (ev_if_neg (by omega) (ev_some rfl))
theorem specEnd {l : List Int} : Ev (fun k => spec_Divide.l0 k 0 ws cs l) l := Ev.step (fun k => by rw [spec_Divide.l0]) (ev_if_neg (by omega) (ev_some rfl))
/-- Or nobody is open. -/
theorem implShut (h : ShOk n ws cs) (hn : 0 < n) (hc : cnt (opnF ws cs o) ws.length = 0) : Ev (fun k => impl_Divide.l0 k n ws cs (mapR ws.length o)) (mapR ws.length o) := by
  have hl := opI_len (p := opnF ws cs o) ws.length
  refine Ev.step (fun k => by rw [impl_Divide.l0]) (ev_if_pos hn ?_)
  exact implOpen (o := o) h (W := mapR ws.length o) (fun {g} hg => Ev.congr hg (ev_if_pos (by omega) (ev_some rfl))) ws.length 0 (by omega)
theorem specShut (h : ShOk n ws cs) (hn : 0 < n) (hc : cnt (opnF ws cs o) ws.length = 0) : Ev (fun k => spec_Divide.l0 k n ws cs (mapR ws.length o)) (mapR ws.length o) := by
  have hl1 := h.l1
  have hl2 := h.l2
  have hno : ∀ j, j < ws.length → opnF ws cs o j = false := fun j hj => by
    cases hp : opnF ws cs o j with
    | false => rfl
    | true => have := cnt_lt hj hp; omega
  have l1 : ∀ d i, i + d = ws.length → Ev (fun k => spec_Divide.l1 k n ws cs (mapR ws.length o) (mapB ws.length (fun _ => false)) 0 (i : Int)) (mapR ws.length o) := by
    intro d
    induction d with
    | zero =>
      intro i hi
      exact Ev.step (fun k => by rw [spec_Divide.l1]) (ev_if_neg (by omega) (ev_if_pos rfl (ev_some rfl)))
    | succ d ih =>
      intro i hi
      have hiN : i < ws.length := by omega
      have ih := ih (i + 1) (by omega)
      have ro : rd (mapR ws.length o) (i : Int) = o i := mapR_rd _ hiN
      have hp := hno i hiN
      rw [← Bool.not_eq_true, opn_iff] at hp
      have sb : (mapB ws.length (fun _ => false)).set i false = mapB ws.length (fun _ => false) := by
        rw [mapB_set]
        exact mapB_congr (fun j hj => by split <;> rfl)
      refine Ev.step (fun k => by rw [spec_Divide.l1]) (ev_if_pos (by omega) (ev_if_pos (by omega) ?_))
      simp only [ro, wsucc hiN (by omega : ws.length ≤ 9223372036854775807), Int.toNat_natCast]
      by_cases c1 : rd ws (i : Int) > 0
      · refine ev_if_pos c1 (ev_if_pos (by rw [mapR_len]; omega) (ev_if_pos (by omega) (ev_if_pos (by rw [mapB_len]; omega) ?_)))
        simp only [Option.bind_some, decide_eq_false (show ¬ o i < rd cs (i : Int) by omega), sb]
        exact ev_if_neg (by simp) ih
      · refine ev_if_neg c1 (ev_if_pos (by rw [mapB_len]; omega) ?_)
        simp only [Option.bind_some, sb]
        exact ev_if_neg (by simp) ih
  refine Ev.step (fun k => by rw [spec_Divide.l0]) (ev_if_pos hn (ev_if_pos (by omega) (ev_if_pos (by omega) ?_)))
  rw [Int.toNat_natCast, mapB_repl]
  exact l1 ws.length 0 (by omega)
theorem shOk_less (h : ShOk n ws cs) {n' : Int} (h0 : 0 ≤ n') (h1 : n' ≤ n) : ShOk n' ws cs := ⟨h0, by have := h.n1; omega, h.l1, h.l2, h.w, h.c⟩
/-- All rounds. -/
theorem divide_ev : ∀ (fuel : Nat) (n : Int) (o : Nat → Int), n ≤ fuel → ShOk n ws cs → Shr ws cs o →
    ∃ g r, Ev (fun k => impl_Divide.l0 k n ws cs (mapR ws.length o)) (mapR ws.length g) ∧ Ev (fun k => spec_Divide.l0 k n ws cs (mapR ws.length o)) (mapR ws.length g) ∧ Shr ws cs g ∧ sumR g ws.length + r = sumR o ws.length + n ∧ 0 ≤ r ∧ (r = 0 ∨ ∀ j, j < ws.length → 0 < rd ws (j : Int) → g j = rd cs (j : Int))
  | fuel, n, o, hf, h, S => by
    by_cases hn : 0 < n
    · by_cases hc : 0 < cnt (opnF ws cs o) ws.length
      · have ht := take_sum h S hc hn
        cases fuel with
        | zero => omega
        | succ fuel =>
          obtain ⟨g, r, h1, h2, h3, h4, h5, h6⟩ := divide_ev fuel (n - sumR (takeF n ws cs o) ws.length) (fun j => o j + takeF n ws cs o j) (by omega) (shOk_less h (by omega) (by omega)) (shr_next h S hc)
          rw [sumR_add] at h4
          exact ⟨g, r, implRound h S hn hc h1, specRound h S hn hc h2, h3, by omega, h5, h6⟩
      · have hc0 : cnt (opnF ws cs o) ws.length = 0 := by omega
        refine ⟨o, n, implShut h hn hc0, specShut h hn hc0, S, rfl, by omega, .inr (fun j hj hw => ?_)⟩
        have hb := S.bnd j hj
        have : ¬ opnF ws cs o j = true := fun hp => by have := cnt_lt hj hp; omega
        rw [opn_iff] at this
        omega
    · have h0 := h.n0
      obtain rfl : n = 0 := by omega
      exact ⟨o, 0, implEnd, specEnd, S, rfl, Int.le_refl _, .inl rfl⟩
end
/-- What both answer. -/
theorem divide_both (n : Int) (ws cs : List Int) : ∃ l, Ev (fun k => impl_Divide.f k n ws cs) l ∧ Ev (fun k => spec_Divide.f k n ws cs) l ∧
    ((shOk n ws cs = false ∧ l = []) ∨ (ShOk n ws cs ∧ ∃ g r, l = mapR ws.length g ∧ Shr ws cs g ∧ sumR g ws.length + r = n ∧ 0 ≤ r ∧ (r = 0 ∨ ∀ j, j < ws.length → 0 < rd ws (j : Int) → g j = rd cs (j : Int)))) := by
  cases hs : shOk n ws cs with
  | false =>
    refine ⟨[], ?_, ?_, .inl ⟨rfl, rfl⟩⟩
    · unfold impl_Divide.f
      simp only [sharesOk_eq, Option.bind_some, hs]
      exact ev_if_neg (by simp) (ev_some rfl)
    · unfold spec_Divide.f
      refine Ev.bind (l6Right_ev n ws cs) ?_
      rw [hs]
      exact ev_if_neg (by simp) (ev_some rfl)
  | true =>
    have h := shOk_iff.1 hs
    have hl1 := h.l1
    have S0 : Shr ws cs (fun _ => 0) := ⟨fun j hj => ⟨Int.le_refl _, (h.c j hj).1⟩, fun _ _ _ => rfl⟩
    obtain ⟨g, r, h1, h2, h3, h4, h5, h6⟩ := divide_ev (ws := ws) (cs := cs) n.toNat n (fun _ => 0) (by have := h.n0; omega) h S0
    rw [sumR_zero, Int.zero_add] at h4
    refine ⟨mapR ws.length g, ?_, ?_, .inr ⟨h, g, r, rfl, h3, h4, h5, h6⟩⟩
    · unfold impl_Divide.f
      simp only [sharesOk_eq, Option.bind_some, hs]
      refine ev_if_pos trivial (ev_if_pos (by omega) (ev_if_pos (by omega) ?_))
      rw [Int.toNat_natCast, mapR_repl]
      exact h1
    · unfold spec_Divide.f
      refine Ev.bind (l6Right_ev n ws cs) ?_
      rw [hs]
      refine ev_if_pos rfl (ev_if_pos (by omega) (ev_if_pos (by omega) ?_))
      rw [Int.toNat_natCast, mapR_repl]
      exact h2
end Go.Proofs.Yteilcchcekmooaa.G

/- GKOpen -/
/-
  An argument that can be read as data (the form's own reading) is of a kind 'Kd'; and what is known of it besides ('Wf').
-/
namespace Go.Proofs.Yteilcchcekmooaa.G
open Go.RowKit Go.Proofs.YteilcchcekmooaaW.PrintWords Go.Proofs.YteilcchcekmooaaW.PrintLast Go.Proofs.YteilcchcekmooaaW.PrintMore
set_option linter.unusedVariables false
section
variable {H : Type} {enc : TypeId × Value → H} {P : Program} {w : World} {base : Nat} {spare : Nat → Bool} {held : Bool}
def KOpens {α : Type} (enc : TypeId × Value → H) (P : Program) (w : World) (base : Nat) (spare : Nat → Bool) (held : Bool) (n : Nat) (t : TypeId) (k : Kd α) (Wf : α → Prop) : Prop :=
  ∀ cs x, DataW.trod enc P w base spare held n t cs = some x → ∃ a, Wf a ∧ k.K w a cs
def wfInt (i : Int) : Prop := -9223372036854775808 ≤ i ∧ i ≤ 9223372036854775807
theorem kopens_int {n : Nat} {t : TypeId} (ht : P.underlying t = some (.int .i64)) : KOpens enc P w base spare held n t (Kd.int .i64) wfInt := by
  intro cs x h
  obtain ⟨i, rfl, _, hw⟩ := DataW.trod_int ht h
  have m1 : IntKind.i64.min = -9223372036854775808 := by decide
  have m2 : IntKind.i64.max = 9223372036854775807 := by decide
  simp only [Lit.wf, Bool.and_eq_true, decide_eq_true_eq, m1, m2] at hw
  exact ⟨i, hw, rfl⟩
theorem list_pick {α : Type} {P : Nat → α → Prop} : ∀ (n : Nat), (∀ i, i < n → ∃ a, P i a) → ∃ xs : List α, xs.length = n ∧ ∀ i (h : i < xs.length), P i xs[i]
  | 0, _ => ⟨[], rfl, by simp⟩
  | n + 1, h => by
    obtain ⟨xs, hl, hx⟩ := list_pick (P := P) n (fun i hi => h i (by omega))
    obtain ⟨a, ha⟩ := h n (by omega)
    refine ⟨xs ++ [a], by simp [hl], fun i hi => ?_⟩
    by_cases hin : i < xs.length
    · rw [List.getElem_append_left hin]; exact hx i hin
    · have : i = n := by simp at hi; omega
      subst this
      rw [List.getElem_append_right (by omega)]
      simpa using ha
theorem kopens_slice {α : Type} {n : Nat} {t e : TypeId} {k : Kd α} {Wf : α → Prop} (ht : P.underlying t = some (.slice e)) (hsz : P.cellsOf e = k.sz) (hpos : 0 < k.sz) (hby : ∀ xs : List α, True → True)
    (ho : ∀ m, m < n → KOpens enc P w base spare held m e k Wf) : KOpens enc P w base spare held n t (Kd.slice e k) (fun xs => xs.length ≤ 9223372036854775807 ∧ ∀ x ∈ xs, Wf x) := by
  intro cs x h
  rcases DataW.trod_slice ht h with ⟨rfl, _⟩ | ⟨a, len, cap, elems, rest, m, hn, rfl, _, hb, hl, hm, hlen, hel, _, _⟩
  · exact ⟨[], ⟨by simp, by simp⟩, none, 0, rfl, by simp, rfl, by simp, fun h => absurd h (by simp)⟩
  · unfold maxLen at hm
    have get : ∀ i, i < len → ∃ p : α, Wf p ∧ ∃ cs', w.cells? base (a.add (i * k.sz)) k.sz = some cs' ∧ k.K w p cs' := by
      intro i hi
      have h1 := hel i hi
      rw [hsz, List.getElem?_eq_getElem (by omega), Option.bind_eq_some_iff] at h1
      obtain ⟨cs', h1, h2⟩ := h1
      obtain ⟨p, hp, hK⟩ := ho m (by omega) _ _ h2
      exact ⟨p, hp, cs', h1, hK⟩
    obtain ⟨xs, hxl, hxs⟩ := list_pick len get
    refine ⟨xs, ⟨by omega, fun p hp => ?_⟩, some a, cap, by rw [hxl], by omega, rfl, by omega, fun _ => ⟨a, rfl, fun j p hj => ?_⟩⟩
    · obtain ⟨i, hi, rfl⟩ := List.getElem_of_mem hp
      exact (hxs i hi).1
    · obtain ⟨hjl, rfl⟩ := List.getElem?_eq_some_iff.1 hj
      obtain ⟨_, cs', hc, hK⟩ := hxs j hjl
      obtain ⟨_, hl', hat'⟩ := World.cells?_some hc
      refine ⟨cs', k.K_len hK, hK, fun i u hu => ?_⟩
      have hi := (List.getElem?_eq_some_iff.1 hu).1
      have h3 := hat' i (by rw [k.K_len hK] at hi; exact hi)
      rw [hu] at h3
      have ha : (a.add (j * k.sz)).add i = a.add (j * k.sz + i) := by
        unfold Addr.add
        by_cases h1 : j * k.sz = 0 <;> by_cases h2 : i = 0 <;> simp [h1, h2, Nat.add_assoc]
      rw [ha] at h3
      exact h3
end
end Go.Proofs.Yteilcchcekmooaa.G

/- G7 -/
-- Laid by wip/g/gprint.py out of the translation, by the kit's print program. Lean checks it.
namespace Go.Proofs.Yteilcchcekmooaa.G
open Go.RowKit Go.Proofs.YteilcchcekmooaaW.PrintWords Go.Proofs.YteilcchcekmooaaW.PrintLast Go.Proofs.YteilcchcekmooaaW.PrintMore
attribute [local go_sem] max2_int min2_int max_two min_two max_three min_three max_four min_four   -- for this text's walks alone
set_option linter.unusedVariables false
set_option linter.unusedSimpArgs false

/-! ### laws_toIntS: function 7 -/
def laws_toIntS.l0 : Nat → List Int → List Int → Int → Option (List Int)
  | 0, _, _, _ => none
  | k + 1, x0, x3, x4 => if x4 < (x0.length : Int) then (if 0 ≤ x4 then (if x4 < (x3.length : Int) then (laws_toIntS.l0 k x0 (x3.set (x4 : Int).toNat (rd x0 x4)) (wrap64 (x4 + 1))) else (none)) else (none)) else (some x3)
def laws_toIntS.f (k : Nat) (l0 : List Int) : Option (List Int) := if 0 ≤ (l0.length : Int) then (if ((l0.length : Int) : Int).toNat ≤ 35184372088832 then (laws_toIntS.l0 k l0 (List.replicate ((l0.length : Int) : Int).toNat 0) 0) else (none)) else (none)
set_option maxHeartbeats 8000000 in
set_option maxRecDepth 100000 in
theorem laws_toIntS.calls (k : Nat) (A0 : Option Addr) (c0 : Nat) (l0 : List Int) (r : List Int) (w : World) (hr0 : Kd.C (Kd.int .i64) w A0 l0.length l0) (hc0 : l0.length ≤ c0) (h : laws_toIntS.f k l0 = some r) :
    Calls Try.prog 7 #[.slice A0 l0.length c0] w fun e w' => ∃ v0_ : Value, e = .returned (v0_) ∧ Kd.R (Kd.int .i64) 3 w' w.heap.size (fun _ => True) v0_ r ∧ Below w.heap.size w w' := by
  have HR0 := Aside0.mk hr0
  have HC0 := Aside0.mk hc0
  clear hr0 hc0
  have HB := Aside0.mk (Below.refl w.heap.size w)
  have H : (if 0 ≤ (l0.length : Int) then (if ((l0.length : Int) : Int).toNat ≤ 35184372088832 then (laws_toIntS.l0 k l0 (List.replicate ((l0.length : Int) : Int).toNat 0) 0) else (none)) else (none)) = some r := h
  clear h
  by_cases c2 : 0 ≤ (l0.length : Int)
  · rw [if_pos c2] at H
    have c2b0 := eq_true c2
    have c2b1 : decide (0 ≤ (l0.length : Int)) = true := decide_eq_true c2
    clear c2
    by_cases c3 : ((l0.length : Int) : Int).toNat ≤ 35184372088832
    · rw [if_pos c3] at H
      have c3b0 := eq_true c3
      have c3b1 : decide (((l0.length : Int) : Int).toNat ≤ 35184372088832) = true := decide_eq_true c3
      clear c3
      obtain ⟨y160, hy160⟩ : ∃ y_ : List Int, y_ = (List.replicate ((l0.length : Int) : Int).toNat 0) := ⟨_, rfl⟩
      replace H : (laws_toIntS.l0 k l0 y160 0) = some r := by first | (rw [hy160]; with_reducible exact H) | (have H2_ := (Option.bind_some _ _).symm.trans H; rw [hy160]; with_reducible exact H2_) | (have H2_ := (Option.bind_some _ _).symm.trans H; with_reducible exact H2_) | with_reducible exact H | (rw [hy160]; exact H) | exact H
      have Ny160 := Aside0.mk hy160
      clear hy160
      have H' := Aside0.mk H
      clear H
      go_enter Try.func7, Try.ntmps7
      go_wp2_with (first | ((with_reducible refine gate_dst (N := 7) rfl ?_); refine Kd.R_make (Kd.int .i64) _ 3 rfl (N := 7) rfl 22 _ _ rfl (l0.length : Int) rfl rfl Try.underlying22 (.int .i64 0) 8 info3 rfl (by decide) (by omega) 0 (ok := fun _ => True) (okp := fun _ => True) rfl (fun _ hk => hk) trivial (of_decide_eq_true (by first | (with_reducible assumption) | assumption)) (Nat.le_trans (Nat.mul_le_mul_right _ (of_decide_eq_true (by first | (with_reducible assumption) | assumption) : (l0.length : Int).toNat ≤ 35184372088832)) (by omega)) (Below.refl _ _) (Nat.le_refl _) ?_; intro v161 w4 ho5 hb hg_ hnew_; clear hg_ hnew_; (first | rw [← Ny160.out] at ho5 | (simp only [Int.reduceToNat] at ho5; rw [← Ny160.out] at ho5)); have n0_ := Aside0.mk (Kd.R_lower ho5 (below_size (by repeat (first | (with_reducible first | exact HB.out | apply below_alloc | apply pw_below_drewN | apply below_drew1) | exact HB.out)))); have n1_ := Aside0.mk (below_step (by repeat (first | (with_reducible first | exact HB.out | apply below_alloc | apply pw_below_drewN | apply below_drew1) | exact HB.out)) hb); clear HB; have HO162 := n0_; have HB := n1_; clear n0_ n1_; clear hb ho5))
      go_loopg [4] k (fun kq v4 w' => ∃ (x3_1 : List Int) (x4_1 : Int), v4 = .int .i64 x4_1 ∧ Aside0 (laws_toIntS.l0 kq l0 x3_1 x4_1 = some r) ∧ Aside0 (kq ≤ k) ∧ Aside0 (Kd.R (Kd.int .i64) 3 w' w.heap.size (fun _ => True) v161 x3_1) ∧ Aside0 (Below w.heap.size w w'))
      case atStart => exact ⟨(y160), (0), (by first | rfl | (simp; done) | (simp [*]; done)), H', ⟨Nat.le_refl _⟩, ⟨by (with_reducible repeat (first | apply Kd.R_alloc | apply Kd.R_drewN | apply Kd.R_drew)); exact HO162.out⟩, ⟨by repeat (first | (with_reducible first | exact HB.out | apply below_alloc | apply pw_below_drewN | apply below_drew1) | exact HB.out)⟩⟩
      case round =>
        clear H'
        try clear c2
        try clear c2b0
        try clear c2b1
        try clear p2
        try clear c3
        try clear c3b0
        try clear c3b1
        obtain ⟨x3_1, x4_1, rfl, HA, HK1, HO_3, HB⟩ := hrel
        cases gk with
        | zero => exact absurd HA.out (by simp [laws_toIntS.l0])
        | succ k1 =>
          have H := HA.out
          clear HA
          simp only [laws_toIntS.l0] at H
          by_cases c6 : x4_1 < (l0.length : Int)
          · rw [if_pos c6] at H
            have c6b0 : decide (x4_1 < (l0.length : Int)) = true := decide_eq_true c6
            clear c6
            by_cases c7 : 0 ≤ x4_1
            · rw [if_pos c7] at H
              have c7b0 : decide (0 ≤ x4_1) = true := decide_eq_true c7
              clear c7
              by_cases c8 : x4_1 < (x3_1.length : Int)
              · rw [if_pos c8] at H
                have c8b0 : decide (x4_1 < (x3_1.length : Int)) = true := decide_eq_true c8
                clear c8
                obtain ⟨y164, hy164⟩ : ∃ y_ : List Int, y_ = (x3_1.set (x4_1 : Int).toNat (rd l0 x4_1)) := ⟨_, rfl⟩
                replace H : (laws_toIntS.l0 k1 l0 y164 (wrap64 (x4_1 + 1))) = some r := by first | (rw [hy164]; with_reducible exact H) | (have H2_ := (Option.bind_some _ _).symm.trans H; rw [hy164]; with_reducible exact H2_) | (have H2_ := (Option.bind_some _ _).symm.trans H; with_reducible exact H2_) | with_reducible exact H | (rw [hy164]; exact H) | exact H
                have Ny164 := Aside0.mk hy164
                clear hy164
                have H' := Aside0.mk H
                clear H
                have p163 : 0 ≤ (x4_1 : Int) := of_decide_eq_true (by first | (with_reducible assumption) | assumption)
                have q163 : x4_1 < (l0.length : Int) := of_decide_eq_true (by first | (with_reducible assumption) | assumption)
                obtain ⟨ad163, e163, hx163_0⟩ := Kd.at_int HR0.out x4_1 p163 q163
                cases e163
                replace hx163_0 := (HB.out.cell (World.block_lt_of_cell? w _ hx163_0)).trans hx163_0
                replace p163 := eq_true p163
                replace q163 := eq_true q163
                have p9 : 0 ≤ (x4_1 : Int) := of_decide_eq_true (by first | (with_reducible assumption) | assumption)
                have q9 : (x4_1 : Int) < ((x3_1.length : Int) : Int) := of_decide_eq_true (by first | (with_reducible assumption) | assumption)
                obtain ⟨go9, co9, eo9, gb9, gl9, cl9, HG9⟩ := Kd.R_form HO_3.out (by omega)
                (first | cases eo9 | (injection eo9 with ea_ en_ ec_; (first | subst ea_ | (injection ea_ with ea_; subst ea_)); subst ec_; clear en_))
                have GB9 := Aside0.mk gb9
                have GG9 := Aside0.mk HG9
                clear gb9 gl9 HG9
                obtain ⟨hx9_0, hf9_0⟩ := Kd.R_celln 0 HO_3.out (x4_1 : Int) p9 q9
                replace p9 := eq_true p9
                replace q9 := eq_true q9
                have HP10 := Kd.R_putg HO_3.out (x4_1 : Int) (rd l0 x4_1)
                go_wp2_with (first | ((with_reducible refine gate_store (t := 3) (p := 20) rfl ?_); refine store_event (t := 3) (p := 20) (v := ?vo_w11) (w1 := (wr.setCell ⟨go9, (x4_1 : Int).toNat, none⟩ (.int .i64 (rd l0 x4_1)))) ?hg ?ho ?hn ?hr ?_; (case ho => rfl); (case hg => rfl); (case hn => rfl); (case hr => first | (go_simp; done) | (go_simp; rfl)); intro w11 hw; have hg : wr.grownBy w11 (some go9) := (by rw [hw]; exact HP10.2); have hp_ : Kd.R (Kd.int .i64) 3 w11 w.heap.size (fun _ => True) (.slice (some ⟨go9, 0, none⟩) x3_1.length co9) y164 := (by rw [hw, Ny164.out]; exact HP10.1); clear HP10; have n0_ := Aside0.mk (hp_); have n1_ := Aside0.mk ((by rw [hw]; exact below_set (HB.out) GB9.out : Below w.heap.size w w11)); clear HO_3; clear HB; have HO_3 := n0_; have HB := n1_; clear n0_ n1_; clear hg hw hp_))
                go_roundg k1
                case measure => have := HK1.out; omega
                case rel => exact ⟨(y164), (wrap64 (x4_1 + 1)), (by first | rfl | (simp; done) | (simp [*]; done)), H', ⟨by have := HK1.out; omega⟩, ⟨by (with_reducible repeat (first | apply Kd.R_alloc | apply Kd.R_drewN | apply Kd.R_drew)); exact HO_3.out⟩, ⟨by repeat (first | (with_reducible first | exact HB.out | apply below_alloc | apply pw_below_drewN | apply below_drew1) | exact HB.out)⟩⟩
              · rw [if_neg c8] at H
                exact absurd H (by simp)
            · rw [if_neg c7] at H
              exact absurd H (by simp)
          · rw [if_neg c6] at H
            have c6b0 : decide (x4_1 < (l0.length : Int)) = false := decide_eq_false c6
            clear c6
            obtain rfl := Option.some.inj H
            go_wp2
            go_ret
            exact ⟨_, by first | rfl | (simp [errW_none, errW_some] <;> rfl) | (simp [*, errW_none, errW_some] <;> rfl), by (with_reducible repeat (first | apply Kd.R_alloc | apply Kd.R_drewN | apply Kd.R_drew)); exact HO_3.out, by repeat (first | (with_reducible first | exact HB.out | apply below_alloc | apply pw_below_drewN | apply below_drew1) | exact HB.out)⟩
    · rw [if_neg c3] at H
      exact absurd H (by simp)
  · rw [if_neg c2] at H
    exact absurd H (by simp)

end Go.Proofs.Yteilcchcekmooaa.G

/- G9 -/
-- Laid by wip/g/gprint.py out of the translation, by the kit's print program. Lean checks it.
namespace Go.Proofs.Yteilcchcekmooaa.G
open Go.RowKit Go.Proofs.YteilcchcekmooaaW.PrintWords Go.Proofs.YteilcchcekmooaaW.PrintLast Go.Proofs.YteilcchcekmooaaW.PrintMore
attribute [local go_sem] max2_int min2_int max_two min_two max_three min_three max_four min_four   -- for this text's walks alone
set_option linter.unusedVariables false
set_option linter.unusedSimpArgs false

/-! ### laws_eqIntS: function 9 -/
def laws_eqIntS.l0 : Nat → List Int → List Int → Int → Option (Bool)
  | 0, _, _, _ => none
  | k + 1, x0, x1, x5 => if x5 < (x0.length : Int) then (if 0 ≤ x5 then (if x5 < (x1.length : Int) then (if (rd x0 x5) = (rd x1 x5) then (laws_eqIntS.l0 k x0 x1 (wrap64 (x5 + 1))) else (some false)) else (none)) else (none)) else (some true)
def laws_eqIntS.f (k : Nat) (l0 : List Int) (l1 : List Int) : Option (Bool) := if (l0.length : Int) = (l1.length : Int) then (laws_eqIntS.l0 k l0 l1 0) else (some false)
set_option maxHeartbeats 8000000 in
set_option maxRecDepth 100000 in
theorem laws_eqIntS.calls (k : Nat) (A0 : Option Addr) (c0 : Nat) (l0 : List Int) (A1 : Option Addr) (c1 : Nat) (l1 : List Int) (r : Bool) (w : World) (hr0 : Kd.C (Kd.int .i64) w A0 l0.length l0) (hc0 : l0.length ≤ c0) (hr1 : Kd.C (Kd.int .i64) w A1 l1.length l1) (hc1 : l1.length ≤ c1) (h : laws_eqIntS.f k l0 l1 = some r) :
    Calls Try.prog 9 #[.slice A0 l0.length c0, .slice A1 l1.length c1] w fun e w' => e = .returned (.bool r) ∧ Drawn0 w w' := by
  have HR0 := Aside0.mk hr0
  have HC0 := Aside0.mk hc0
  clear hr0 hc0
  have HR1 := Aside0.mk hr1
  have HC1 := Aside0.mk hc1
  clear hr1 hc1
  have H : (if (l0.length : Int) = (l1.length : Int) then (laws_eqIntS.l0 k l0 l1 0) else (some false)) = some r := h
  clear h
  by_cases c3 : (l0.length : Int) = (l1.length : Int)
  · rw [if_pos c3] at H
    have c3b0 : ((l0.length : Int) == (l1.length : Int)) = true := beq_iff_eq.mpr c3
    have c3b1 : ((l0.length : Int) != (l1.length : Int)) = false := bne_eq_false_iff_eq.mpr c3
    have c3b2 : (l0.length == l1.length) = true := by first | simpa using c3 | (simp at c3 ⊢; omega)
    clear c3
    have H' := Aside0.mk H
    clear H
    go_enter Try.func9, Try.ntmps9
    go_wp2
    repeat (go_quiet (fail); try go_wp2)
    go_loopg [5] k (fun kq v5 w' => ∃ (x5_1 : Int), v5 = .int .i64 x5_1 ∧ Aside0 (laws_eqIntS.l0 kq l0 l1 x5_1 = some r) ∧ Aside0 (kq ≤ k) ∧ Drawn0 w w')
    case atStart => exact ⟨(0), (by first | rfl | (simp; done) | (simp [*]; done)), H', ⟨Nat.le_refl _⟩, by repeat (first | exact Drawn0.refl _ | apply Drawn0.step)⟩
    case round =>
      clear H'
      try clear c1
      try clear p2
      try clear c3
      try clear c3b0
      try clear c3b1
      try clear c3b2
      obtain ⟨x5_1, rfl, HA, HK1, ⟨m1, rfl⟩⟩ := hrel
      cases gk with
      | zero => exact absurd HA.out (by simp [laws_eqIntS.l0])
      | succ k1 =>
        have H := HA.out
        clear HA
        simp only [laws_eqIntS.l0] at H
        by_cases c4 : x5_1 < (l0.length : Int)
        · rw [if_pos c4] at H
          have c4b0 : decide (x5_1 < (l0.length : Int)) = true := decide_eq_true c4
          clear c4
          by_cases c5 : 0 ≤ x5_1
          · rw [if_pos c5] at H
            have c5b0 : decide (0 ≤ x5_1) = true := decide_eq_true c5
            clear c5
            by_cases c6 : x5_1 < (l1.length : Int)
            · rw [if_pos c6] at H
              have c6b0 : decide (x5_1 < (l1.length : Int)) = true := decide_eq_true c6
              clear c6
              by_cases c7 : (rd l0 x5_1) = (rd l1 x5_1)
              · rw [if_pos c7] at H
                have c7b0 : ((rd l0 x5_1) == (rd l1 x5_1)) = true := beq_iff_eq.mpr c7
                have c7b1 : ((rd l0 x5_1) != (rd l1 x5_1)) = false := bne_eq_false_iff_eq.mpr c7
                clear c7
                have H' := Aside0.mk H
                clear H
                have p192 : 0 ≤ (x5_1 : Int) := of_decide_eq_true (by first | (with_reducible assumption) | assumption)
                have q192 : x5_1 < (l0.length : Int) := of_decide_eq_true (by first | (with_reducible assumption) | assumption)
                obtain ⟨ad192, e192, hx192_0⟩ := Kd.at_int HR0.out x5_1 p192 q192
                cases e192
                replace p192 := eq_true p192
                replace q192 := eq_true q192
                have p193 : 0 ≤ (x5_1 : Int) := of_decide_eq_true (by first | (with_reducible assumption) | assumption)
                have q193 : x5_1 < (l1.length : Int) := of_decide_eq_true (by first | (with_reducible assumption) | assumption)
                obtain ⟨ad193, e193, hx193_0⟩ := Kd.at_int HR1.out x5_1 p193 q193
                cases e193
                replace p193 := eq_true p193
                replace q193 := eq_true q193
                go_wp2
                repeat (go_quiet (fail); try go_wp2)
                go_roundg k1
                case measure => have := HK1.out; omega
                case rel => exact ⟨(wrap64 (x5_1 + 1)), (by first | rfl | (simp; done) | (simp [*]; done)), H', ⟨by have := HK1.out; omega⟩, by repeat (first | exact Drawn0.refl _ | apply Drawn0.step)⟩
              · rw [if_neg c7] at H
                have c7b0 : ((rd l0 x5_1) == (rd l1 x5_1)) = false := beq_eq_false_iff_ne.mpr c7
                have c7b1 : ((rd l0 x5_1) != (rd l1 x5_1)) = true := bne_iff_ne.mpr c7
                obtain rfl := Option.some.inj H
                have p192 : 0 ≤ (x5_1 : Int) := of_decide_eq_true (by first | (with_reducible assumption) | assumption)
                have q192 : x5_1 < (l0.length : Int) := of_decide_eq_true (by first | (with_reducible assumption) | assumption)
                obtain ⟨ad192, e192, hx192_0⟩ := Kd.at_int HR0.out x5_1 p192 q192
                cases e192
                replace p192 := eq_true p192
                replace q192 := eq_true q192
                have p193 : 0 ≤ (x5_1 : Int) := of_decide_eq_true (by first | (with_reducible assumption) | assumption)
                have q193 : x5_1 < (l1.length : Int) := of_decide_eq_true (by first | (with_reducible assumption) | assumption)
                obtain ⟨ad193, e193, hx193_0⟩ := Kd.at_int HR1.out x5_1 p193 q193
                cases e193
                replace p193 := eq_true p193
                replace q193 := eq_true q193
                go_wp2
                repeat (go_quiet (fail); try go_wp2)
                go_ret
                exact ⟨by first | rfl | (simp; done) | (simp [*]; done), by repeat (first | exact Drawn0.refl _ | apply Drawn0.step)⟩
            · rw [if_neg c6] at H
              exact absurd H (by simp)
          · rw [if_neg c5] at H
            exact absurd H (by simp)
        · rw [if_neg c4] at H
          have c4b0 : decide (x5_1 < (l0.length : Int)) = false := decide_eq_false c4
          clear c4
          obtain rfl := Option.some.inj H
          go_wp2
          repeat (go_quiet (fail); try go_wp2)
          go_ret
          exact ⟨by first | rfl | (simp; done) | (simp [*]; done), by repeat (first | exact Drawn0.refl _ | apply Drawn0.step)⟩
  · rw [if_neg c3] at H
    have c3b0 : ((l0.length : Int) == (l1.length : Int)) = false := beq_eq_false_iff_ne.mpr c3
    have c3b1 : ((l0.length : Int) != (l1.length : Int)) = true := bne_iff_ne.mpr c3
    have c3b2 : (l0.length == l1.length) = false := by first | simpa using c3 | (simp at c3 ⊢; omega)
    obtain rfl := Option.some.inj H
    go_enter Try.func9, Try.ntmps9
    go_wp2
    repeat (go_quiet (fail); try go_wp2)
    go_ret
    exact ⟨by first | rfl | (simp; done) | (simp [*]; done), by repeat (first | exact Drawn0.refl _ | apply Drawn0.step)⟩

end Go.Proofs.Yteilcchcekmooaa.G

/- G10 -/
-- Laid by wip/g/gprint.py out of the translation, by the kit's print program. Lean checks it.
namespace Go.Proofs.Yteilcchcekmooaa.G
open Go.RowKit Go.Proofs.YteilcchcekmooaaW.PrintWords Go.Proofs.YteilcchcekmooaaW.PrintLast Go.Proofs.YteilcchcekmooaaW.PrintMore
attribute [local go_sem] max2_int min2_int max_two min_two max_three min_three max_four min_four   -- for this text's walks alone
set_option linter.unusedVariables false
set_option linter.unusedSimpArgs false

/-! ### laws_markIntS: function 10 -/
def laws_markIntS.l0 : Nat → List Int → Int → Int → Option (Int × List Int)
  | 0, _, _, _ => none
  | k + 1, x0, x1, x5 => if x5 < (x0.length : Int) then (if 0 ≤ x5 then (laws_markIntS.l0 k (x0.set (x5 : Int).toNat x1) (wrap64 (x1 + 1)) (wrap64 (x5 + 1))) else (none)) else (some (x1, x0))
def laws_markIntS.f (k : Nat) (l0 : List Int) (a1 : Int) : Option (Int × List Int) := laws_markIntS.l0 k l0 a1 0
set_option maxHeartbeats 8000000 in
set_option maxRecDepth 100000 in
theorem laws_markIntS.calls (k : Nat) (P0_ : Nat → Prop) (u9000_ : Value) (l0 : List Int) (a1 : Int) (r1 : Int) (r2 : List Int) (w0 w : World) (hB : Below w0.heap.size w0 w) (ho0 : Kd.R (Kd.int .i64) 3 w w0.heap.size P0_ u9000_ l0) (h : laws_markIntS.f k l0 a1 = some (r1, r2)) :
    Calls Try.prog 10 #[u9000_, .int .i64 a1] w fun e w' => e = .returned (.int .i64 r1) ∧ Kd.R (Kd.int .i64) 3 w' w0.heap.size (fun k_ => (P0_ k_ ∨ w.heap.size ≤ k_)) u9000_ r2 ∧ Below w0.heap.size w0 w' ∧ Kept w w' (fun k_ => P0_ k_) := by
  have HO0 := Aside0.mk (show Kd.R (Kd.int .i64) 3 w w0.heap.size (fun k_ => (P0_ k_ ∨ w.heap.size ≤ k_)) u9000_ l0 from Kd.R_mono ho0 (fun k_ hk => (.inl hk)))
  have HK := Aside0.mk (Kept.refl w (fun k_ => P0_ k_))
  have HW0 := Aside0.mk hB.size
  have HB := Aside0.mk hB
  clear hB
  have H : (laws_markIntS.l0 k l0 a1 0) = some (r1, r2) := h
  clear h
  have H' := Aside0.mk H
  clear H
  go_enter Try.func10, Try.ntmps10
  go_wp2
  go_loopg [1, 5] k (fun kq v1 v5 w' => ∃ (x0_1 : List Int) (x1_1 : Int) (x5_1 : Int), v1 = .int .i64 x1_1 ∧ v5 = .int .i64 x5_1 ∧ Aside0 (laws_markIntS.l0 kq x0_1 x1_1 x5_1 = some (r1, r2)) ∧ Aside0 (kq ≤ k) ∧ Aside0 (Kd.R (Kd.int .i64) 3 w' w0.heap.size (fun k_ => (P0_ k_ ∨ w.heap.size ≤ k_)) u9000_ x0_1) ∧ Aside0 (Kept w w' (fun k_ => P0_ k_)) ∧ Aside0 (Below w0.heap.size w0 w'))
  case atStart => exact ⟨(l0), (a1), (0), (by first | rfl | (simp; done) | (simp [*]; done)), (by first | rfl | (simp; done) | (simp [*]; done)), H', ⟨Nat.le_refl _⟩, ⟨by (with_reducible repeat (first | apply Kd.R_alloc | apply Kd.R_drewN | apply Kd.R_drew)); exact HO0.out⟩, ⟨by repeat (first | (with_reducible first | exact HK.out | apply Kept.alloc | apply Kept.drewN | apply Kept.drew) | exact HK.out)⟩, ⟨by repeat (first | (with_reducible first | exact HB.out | apply below_alloc | apply pw_below_drewN | apply below_drew1) | exact HB.out)⟩⟩
  case round =>
    clear H'
    try clear c1
    try clear p2
    obtain ⟨x0_1, x1_1, x5_1, rfl, rfl, HA, HK1, HO_0, HK, HB⟩ := hrel
    cases gk with
    | zero => exact absurd HA.out (by simp [laws_markIntS.l0])
    | succ k1 =>
      have H := HA.out
      clear HA
      simp only [laws_markIntS.l0] at H
      by_cases c3 : x5_1 < (x0_1.length : Int)
      · rw [if_pos c3] at H
        have c3b0 : decide (x5_1 < (x0_1.length : Int)) = true := decide_eq_true c3
        clear c3
        by_cases c4 : 0 ≤ x5_1
        · rw [if_pos c4] at H
          have c4b0 : decide (0 ≤ x5_1) = true := decide_eq_true c4
          clear c4
          obtain ⟨y194, hy194⟩ : ∃ y_ : List Int, y_ = (x0_1.set (x5_1 : Int).toNat x1_1) := ⟨_, rfl⟩
          replace H : (laws_markIntS.l0 k1 y194 (wrap64 (x1_1 + 1)) (wrap64 (x5_1 + 1))) = some (r1, r2) := by first | (rw [hy194]; with_reducible exact H) | (have H2_ := (Option.bind_some _ _).symm.trans H; rw [hy194]; with_reducible exact H2_) | (have H2_ := (Option.bind_some _ _).symm.trans H; with_reducible exact H2_) | with_reducible exact H | (rw [hy194]; exact H) | exact H
          have Ny194 := Aside0.mk hy194
          clear hy194
          have H' := Aside0.mk H
          clear H
          obtain ⟨Ao6, co6, eo6⟩ := Kd.R_slice HO_0.out
          subst eo6
          have p5 : 0 ≤ (x5_1 : Int) := of_decide_eq_true (by first | (with_reducible assumption) | assumption)
          have q5 : (x5_1 : Int) < ((x0_1.length : Int) : Int) := of_decide_eq_true (by first | (with_reducible assumption) | assumption)
          obtain ⟨go5, co5, eo5, gb5, gl5, cl5, HG5⟩ := Kd.R_form HO_0.out (by omega)
          (first | cases eo5 | (injection eo5 with ea_ en_ ec_; (first | subst ea_ | (injection ea_ with ea_; subst ea_)); subst ec_; clear en_))
          have GB5 := Aside0.mk gb5
          have GG5 := Aside0.mk HG5
          clear gb5 gl5 HG5
          have HMgo5 := Aside0.mk (show (P0_ go5 ∨ w.heap.size ≤ go5) from (HO_0.out.1 _ rfl))
          obtain ⟨hx5_0, hf5_0⟩ := Kd.R_celln 0 HO_0.out (x5_1 : Int) p5 q5
          replace p5 := eq_true p5
          replace q5 := eq_true q5
          have HP7 := Kd.R_putg HO_0.out (x5_1 : Int) x1_1
          go_wp2_with (first | ((with_reducible refine gate_store (t := 3) (p := 15) rfl ?_); refine store_event (t := 3) (p := 15) (v := ?vo_w8) (w1 := (wr.setCell ⟨go5, (x5_1 : Int).toNat, none⟩ (.int .i64 x1_1))) ?hg ?ho ?hn ?hr ?_; (case ho => rfl); (case hg => rfl); (case hn => rfl); (case hr => first | (go_simp; done) | (go_simp; rfl)); intro w8 hw; have hg : wr.grownBy w8 (some go5) := (by rw [hw]; exact HP7.2); have hp_ : Kd.R (Kd.int .i64) 3 w8 w0.heap.size (fun k_ => (P0_ k_ ∨ w.heap.size ≤ k_)) (.slice (some ⟨go5, 0, none⟩) x0_1.length co6) y194 := (by rw [hw, Ny194.out]; exact HP7.1); clear HP7; have n0_ := Aside0.mk (hp_); have n1_ := Aside0.mk ((by rw [hw]; exact below_set (HB.out) GB5.out : Below w0.heap.size w0 w8)); have n2_ := Aside0.mk (Kept.of_grown (S := (fun k_ => P0_ k_)) hg (by repeat (first | (with_reducible first | exact HK.out | apply Kept.alloc | apply Kept.drewN | apply Kept.drew) | exact HK.out)) (fun k_ e_ => (HO_0.out.1 k_ e_))); clear HO_0; clear HB; clear HK; have HO_0 := n0_; have HB := n1_; have HK := n2_; clear n0_ n1_ n2_; clear hg hw hp_))
          go_roundg k1
          case measure => have := HK1.out; omega
          case rel => exact ⟨(y194), (wrap64 (x1_1 + 1)), (wrap64 (x5_1 + 1)), (by first | rfl | (simp; done) | (simp [*]; done)), (by first | rfl | (simp; done) | (simp [*]; done)), H', ⟨by have := HK1.out; omega⟩, ⟨by (with_reducible repeat (first | apply Kd.R_alloc | apply Kd.R_drewN | apply Kd.R_drew)); exact HO_0.out⟩, ⟨by repeat (first | (with_reducible first | exact HK.out | apply Kept.alloc | apply Kept.drewN | apply Kept.drew) | exact HK.out)⟩, ⟨by repeat (first | (with_reducible first | exact HB.out | apply below_alloc | apply pw_below_drewN | apply below_drew1) | exact HB.out)⟩⟩
        · rw [if_neg c4] at H
          exact absurd H (by simp)
      · rw [if_neg c3] at H
        have c3b0 : decide (x5_1 < (x0_1.length : Int)) = false := decide_eq_false c3
        clear c3
        simp only [Option.some.injEq, Prod.mk.injEq] at H
        obtain ⟨rfl, rfl⟩ := H
        obtain ⟨Ao9, co9, eo9⟩ := Kd.R_slice HO_0.out
        subst eo9
        go_wp2
        go_ret
        exact ⟨by first | rfl | (simp [errW_none, errW_some] <;> rfl) | (simp [*, errW_none, errW_some] <;> rfl), by (with_reducible repeat (first | apply Kd.R_alloc | apply Kd.R_drewN | apply Kd.R_drew)); exact HO_0.out, by repeat (first | (with_reducible first | exact HB.out | apply below_alloc | apply pw_below_drewN | apply below_drew1) | exact HB.out), by repeat (first | (with_reducible first | exact HK.out | apply Kept.alloc | apply Kept.drewN | apply Kept.drew) | exact HK.out)⟩

end Go.Proofs.Yteilcchcekmooaa.G

/- G11 -/
-- Laid by wip/g/gprint.py out of the translation, by the kit's print program. Lean checks it.
namespace Go.Proofs.Yteilcchcekmooaa.G
open Go.RowKit Go.Proofs.YteilcchcekmooaaW.PrintWords Go.Proofs.YteilcchcekmooaaW.PrintLast Go.Proofs.YteilcchcekmooaaW.PrintMore
attribute [local go_sem] max2_int min2_int max_two min_two max_three min_three max_four min_four   -- for this text's walks alone
set_option linter.unusedVariables false
set_option linter.unusedSimpArgs false

/-! ### laws_heldIntS: function 11 -/
def laws_heldIntS.l0 : Nat → List Int → Int → Int → Option (Int)
  | 0, _, _, _ => none
  | k + 1, x0, x1, x5 => if x5 < (x0.length : Int) then (if 0 ≤ x5 then (if (rd x0 x5) = x1 then (laws_heldIntS.l0 k x0 (wrap64 (x1 + 1)) (wrap64 (x5 + 1))) else (some (-1))) else (none)) else (some x1)
def laws_heldIntS.f (k : Nat) (l0 : List Int) (a1 : Int) : Option (Int) := laws_heldIntS.l0 k l0 a1 0
set_option maxHeartbeats 8000000 in
set_option maxRecDepth 100000 in
theorem laws_heldIntS.calls (k : Nat) (A0 : Option Addr) (c0 : Nat) (l0 : List Int) (a1 : Int) (r : Int) (w : World) (hr0 : Kd.C (Kd.int .i64) w A0 l0.length l0) (hc0 : l0.length ≤ c0) (h : laws_heldIntS.f k l0 a1 = some r) :
    Calls Try.prog 11 #[.slice A0 l0.length c0, .int .i64 a1] w fun e w' => e = .returned (.int .i64 r) ∧ Drawn0 w w' := by
  have HR0 := Aside0.mk hr0
  have HC0 := Aside0.mk hc0
  clear hr0 hc0
  have H : (laws_heldIntS.l0 k l0 a1 0) = some r := h
  clear h
  have H' := Aside0.mk H
  clear H
  go_enter Try.func11, Try.ntmps11
  go_wp2
  go_loopg [1, 5] k (fun kq v1 v5 w' => ∃ (x1_1 : Int) (x5_1 : Int), v1 = .int .i64 x1_1 ∧ v5 = .int .i64 x5_1 ∧ Aside0 (laws_heldIntS.l0 kq l0 x1_1 x5_1 = some r) ∧ Aside0 (kq ≤ k) ∧ Drawn0 w w')
  case atStart => exact ⟨(a1), (0), (by first | rfl | (simp; done) | (simp [*]; done)), (by first | rfl | (simp; done) | (simp [*]; done)), H', ⟨Nat.le_refl _⟩, by repeat (first | exact Drawn0.refl _ | apply Drawn0.step)⟩
  case round =>
    clear H'
    try clear c1
    try clear p2
    obtain ⟨x1_1, x5_1, rfl, rfl, HA, HK1, ⟨m1, rfl⟩⟩ := hrel
    cases gk with
    | zero => exact absurd HA.out (by simp [laws_heldIntS.l0])
    | succ k1 =>
      have H := HA.out
      clear HA
      simp only [laws_heldIntS.l0] at H
      by_cases c3 : x5_1 < (l0.length : Int)
      · rw [if_pos c3] at H
        have c3b0 : decide (x5_1 < (l0.length : Int)) = true := decide_eq_true c3
        clear c3
        by_cases c4 : 0 ≤ x5_1
        · rw [if_pos c4] at H
          have c4b0 : decide (0 ≤ x5_1) = true := decide_eq_true c4
          clear c4
          by_cases c5 : (rd l0 x5_1) = x1_1
          · rw [if_pos c5] at H
            have c5b0 : ((rd l0 x5_1) == x1_1) = true := beq_iff_eq.mpr c5
            have c5b1 : ((rd l0 x5_1) != x1_1) = false := bne_eq_false_iff_eq.mpr c5
            clear c5
            have H' := Aside0.mk H
            clear H
            have p195 : 0 ≤ (x5_1 : Int) := of_decide_eq_true (by first | (with_reducible assumption) | assumption)
            have q195 : x5_1 < (l0.length : Int) := of_decide_eq_true (by first | (with_reducible assumption) | assumption)
            obtain ⟨ad195, e195, hx195_0⟩ := Kd.at_int HR0.out x5_1 p195 q195
            cases e195
            replace p195 := eq_true p195
            replace q195 := eq_true q195
            go_wp2
            go_roundg k1
            case measure => have := HK1.out; omega
            case rel => exact ⟨(wrap64 (x1_1 + 1)), (wrap64 (x5_1 + 1)), (by first | rfl | (simp; done) | (simp [*]; done)), (by first | rfl | (simp; done) | (simp [*]; done)), H', ⟨by have := HK1.out; omega⟩, by repeat (first | exact Drawn0.refl _ | apply Drawn0.step)⟩
          · rw [if_neg c5] at H
            have c5b0 : ((rd l0 x5_1) == x1_1) = false := beq_eq_false_iff_ne.mpr c5
            have c5b1 : ((rd l0 x5_1) != x1_1) = true := bne_iff_ne.mpr c5
            obtain rfl := Option.some.inj H
            have p195 : 0 ≤ (x5_1 : Int) := of_decide_eq_true (by first | (with_reducible assumption) | assumption)
            have q195 : x5_1 < (l0.length : Int) := of_decide_eq_true (by first | (with_reducible assumption) | assumption)
            obtain ⟨ad195, e195, hx195_0⟩ := Kd.at_int HR0.out x5_1 p195 q195
            cases e195
            replace p195 := eq_true p195
            replace q195 := eq_true q195
            go_wp2
            go_ret
            exact ⟨by first | rfl | (simp; done) | (simp [*]; done), by repeat (first | exact Drawn0.refl _ | apply Drawn0.step)⟩
        · rw [if_neg c4] at H
          exact absurd H (by simp)
      · rw [if_neg c3] at H
        have c3b0 : decide (x5_1 < (l0.length : Int)) = false := decide_eq_false c3
        clear c3
        obtain rfl := Option.some.inj H
        go_wp2
        go_ret
        exact ⟨by first | rfl | (simp; done) | (simp [*]; done), by repeat (first | exact Drawn0.refl _ | apply Drawn0.step)⟩

end Go.Proofs.Yteilcchcekmooaa.G
