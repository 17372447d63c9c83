import Derived.Test.YtpjpnppoejnafaaMFnMatched6
import Derived.Test.YtpjpnppoejnafaaMFnMatched12
import Derived.Test.YtpjpnppoejnafaaMFnMatched13
import Derived.Test.YtpjpnppoejnafaaMFnMatched1
import Derived.ChangeArms
import Derived.ChangeShapes
import Derived.DataReads
import Derived.Test.YtpjpnppoejnafaaProg
import Derived.WideShapes
import Derived.KernelRfl
import Derived.Test.YtpjpnppoejnafaaRows
import Derived.WalkKit
import Derived.ProofKit
import Derived.OpenShut
import Derived.ShutString
import Derived.ChangeOld
import Derived.Carry
import Derived.Below
import Derived.Handed
/- PMatched -/
/-
  The law FnMatched: drawn labels match two terms just if they match each; either that a key is there, or that it lacks.
-/
namespace Go.Proofs.Ytpjpnppoejnafaa.G
open Go.RowKit Go.Proofs.YtpjpnppoejnafaaW.PrintWords Go.Proofs.YtpjpnppoejnafaaW.PrintLast Go.Proofs.YtpjpnppoejnafaaW.PrintMore
set_option linter.unusedVariables false
set_option linter.unusedSimpArgs false
def MatOk (r : List ITerm × List ILab) : Prop := wfITerms r.1 ∧ wfILabs r.2
theorem smT_1000 {xs : List ITerm} (h : ∀ x ∈ xs, smT 100 x) : ∀ x ∈ xs, smT 1000 x := fun x hx => smT_le (by omega) (h x hx)
theorem drawMatches_tot (cs : List Int) (hl : cs.length ≤ 1048576) : Tot (fun k => spec_DrawMatches.f k cs) MatOk := by
  unfold spec_DrawMatches.f
  refine Tot.bind (l1New_tot cs hl) (fun a ha => ?_)
  obtain ⟨e, hc⟩ := ha
  rw [e]
  refine Tot.bind (l2Draw_tot cs _ _ 3 (by omega) hc) (fun b hb => Tot.bind (l1Once_tot cs _ _ _ hb.2.2) (fun c hc' => Tot.ite (fun _ => ?_) (fun _ => ?_)))
  · refine Tot.bind (l2DrawAny_tot cs _ _ hc') (fun d hd => Tot.bind (l1DrawAny_tot cs _ _ hd.2.2) (fun f hf => Tot.some ⟨wfITerms_sm hd.1 hd.2.1, wfILabs_sm hf.1 hf.2.1⟩))
  · exact Tot.bind (l1DrawAny_tot cs _ _ hc') (fun f hf => Tot.some ⟨wfITerms_sm (by have := hb.1; show b.1.length ≤ 1000; omega) (smT_1000 hb.2.1), wfILabs_sm hf.1 hf.2.1⟩)
theorem selB_one {x : ITerm} (h : termB x = true) : selB [x] = true := by
  have e : rd_T52 [x] ((0 : Nat) : Int) = x := rfl
  simp only [selB, allN, List.length_singleton, List.range_succ, List.range_zero, List.nil_append, List.all_cons, List.all_nil, Bool.and_true, e, h, Bool.true_and]
  rw [decide_eq_true_iff]; omega
theorem matchB_one {x : ITerm} {labs : List ILab} (h : termB x = true) (hl : labsB labs = true) : matchB [x] labs = holdsB x labs := by
  have e : rd_T52 [x] ((0 : Nat) : Int) = x := rfl
  simp only [matchB, selB_one h, hl, Bool.true_and, allN, List.length_singleton, List.range_succ, List.range_zero, List.nil_append, List.all_cons, List.all_nil, Bool.and_true, e]
theorem allN_succ (n : Nat) (ok : Nat → Bool) : allN (n + 1) ok = (allN n ok && ok n) := by
  simp [allN, List.range_succ]
theorem bare_term {key : ByteArray} (k : Int) (hk : nameB key = true) (h : k = 4 ∨ k = 5) : termB ⟨k, key, []⟩ = true := by
  simp only [termB, hk, Bool.true_and, kindB_45 h]
  simp [namsB, allN]
theorem matched_l0 (xs : List ITerm) (labs : List ILab) (hx : wfITerms xs) (hlab : wfILabs labs) (hs : selB xs = true) (hl : labsB labs = true) (hn : 0 < xs.length) : ∀ (d i : Nat) (acc : Bool), i + d = xs.length → acc = allN i (fun j => holdsB (rd_T52 xs j) labs) →
    Ev (fun k => laws_FnMatched.l0 k xs labs acc i) true
  | 0, i, acc, hd, hacc => by
    obtain rfl : i = xs.length := by omega
    refine Ev.step (fun k => by rw [laws_FnMatched.l0]) (ev_if_neg (by omega) (ev_if_pos (by omega) ?_))
    have e0 : rd_T52 xs 0 = xs[0] := rdIT hn
    have ht := (selB_parts hs).2 0 hn
    have hkey : nameB xs[0].f1 = true := by simp only [termB, Bool.and_eq_true] at ht; exact ht.2.1
    have w1 : ∀ k : Int, wfITerms [⟨k, xs[0].f1, []⟩] := fun k => ⟨by simp, fun y hy => by rw [List.mem_singleton.1 hy]; exact ⟨(hx.2 _ (List.getElem_mem hn)).1, by simp [wfStrs]⟩⟩
    rw [e0]
    refine Ev.bind (implMatches_ev _ labs (w1 4) hlab) (Ev.bind (implMatches_ev _ labs (w1 5) hlab) (Ev.bind (implMatches_ev xs labs hx hlab) ?_))
    rw [matchB_one (bare_term 4 hkey (.inl rfl)) hl, matchB_one (bare_term 5 hkey (.inr rfl)) hl]
    refine ev_if_pos ?_ (ev_if_pos ?_ ?_)
    · rw [beq_iff_eq, hacc, matchB, hs, hl]; simp
    · have h4 : ∀ b am, holdB 4 b am = b := fun b am => by simp [holdB]
      have h5 : ∀ b am, holdB 5 b am = !b := fun b am => by simp [holdB]
      simp only [holdsB, h4, h5]
      cases (labGet labs xs[0].f1).2 <;> rfl
    · refine Ev.bind (implMatches_ev [] labs ⟨by simp, by simp⟩ hlab) (ev_some ?_)
      simp [matchB, selB, allN, hl]
  | d + 1, i, acc, hd, hacc => by
    have hi : i < xs.length := by omega
    have ht := (selB_parts hs).2 i hi
    have hw := hx.1
    refine Ev.step (fun k => by rw [laws_FnMatched.l0]) (ev_if_pos (by omega) ?_)
    rw [wsucc hi hw]
    have e0 : rd_T52 xs i = xs[i] := rdIT hi
    cases hb : acc with
    | true =>
      refine ev_if_pos rfl (ev_if_pos (by omega) ?_)
      rw [e0]
      refine Ev.bind (implMatches_ev [⟨xs[i].f0, xs[i].f1, xs[i].f2⟩] labs ⟨by simp, fun y hy => by rw [List.mem_singleton.1 hy]; exact hx.2 _ (List.getElem_mem hi)⟩ hlab) ?_
      refine matched_l0 xs labs hx hlab hs hl hn d (i + 1) _ (by omega) ?_
      rw [allN_succ, ← hacc, hb, Bool.true_and, e0]
      exact matchB_one ht hl
    | false =>
      refine ev_if_neg Bool.false_ne_true (matched_l0 xs labs hx hlab hs hl hn d (i + 1) _ (by omega) ?_)
      rw [allN_succ, ← hacc, hb, Bool.false_and]
theorem FnMatched_pure (l0 : List Int) (hw : l0.length ≤ 9223372036854775807 ∧ ∀ x ∈ l0, 0 ≤ x ∧ x ≤ 255) : ∃ k, laws_FnMatched.f k l0 = some true := by
  refine Ev.rounds ?_
  unfold laws_FnMatched.f laws_big.f
  simp only [Option.bind_some]
  by_cases c : (l0.length : Int) > 1048576
  · exact ev_if_pos (decide_eq_true c) (Ev.now _)
  refine ev_if_neg (by simpa using c) ?_
  obtain ⟨⟨xs, labs⟩, hr, hx, hlab⟩ := drawMatches_tot l0 (by omega)
  have bad : ∀ b : Bool, b = true → Ev (fun k => laws_FnMatched.j0 k xs labs b) true := by
    intro b hb
    refine Ev.step (fun k => by rw [laws_FnMatched.j0]) (ev_if_pos hb (Ev.bind (implMatches_ev xs labs hx hlab) (Ev.bind (f := fun _ t => some (matchB xs labs == t)) (specMatches_ev xs labs hx hlab) (ev_some (beq_self_eq_true _)))))
  refine Ev.bind hr (Ev.bind (specSelectorOk_ev xs hx) ?_)
  cases hs : selB xs with
  | false => exact ev_if_neg Bool.false_ne_true (bad _ rfl)
  | true =>
    refine ev_if_pos rfl (Ev.bind (specLabelsOk_ev labs hlab) ?_)
    cases hl : labsB labs with
    | false => exact ev_if_neg Bool.false_ne_true (bad _ rfl)
    | true =>
      refine ev_if_pos rfl ?_
      by_cases h0 : (xs.length : Int) = 0
      · exact bad _ (by simp [h0])
      · refine Ev.step (fun k => by rw [laws_FnMatched.j0]) (ev_if_neg (by simp; intro h; apply h0; simp [h]) ?_)
        exact matched_l0 xs labs hx hlab hs hl (by omega) xs.length 0 true (by omega) rfl
end Go.Proofs.Ytpjpnppoejnafaa.G

/- GKOpen -/
/-
  An argument that can be read as data (the form's own reading) is of a kind 'Kd'; and what is known of it besides ('Wf').
-/
namespace Go.Proofs.Ytpjpnppoejnafaa.G
open Go.RowKit Go.Proofs.YtpjpnppoejnafaaW.PrintWords Go.Proofs.YtpjpnppoejnafaaW.PrintLast Go.Proofs.YtpjpnppoejnafaaW.PrintMore
set_option linter.unusedVariables false
section
variable {H : Type} {enc : TypeId × Value → H} {P : Program} {w : World} {base : Nat} {spare : Nat → Bool} {held : Bool}
def KOpens {α : Type} (enc : TypeId × Value → H) (P : Program) (w : World) (base : Nat) (spare : Nat → Bool) (held : Bool) (n : Nat) (t : TypeId) (k : Kd α) (Wf : α → Prop) : Prop :=
  ∀ cs x, DataW.trod enc P w base spare held n t cs = some x → ∃ a, Wf a ∧ k.K w a cs
theorem kopens_u8 {n : Nat} {t : TypeId} (ht : P.underlying t = some (.int .u8)) : KOpens enc P w base spare held n t (Kd.int .u8) (fun i => 0 ≤ i ∧ i ≤ 255) := by
  intro cs x h
  obtain ⟨i, rfl, _, hw⟩ := DataW.trod_int ht h
  have m1 : IntKind.u8.min = 0 := by decide
  have m2 : IntKind.u8.max = 255 := by decide
  simp only [Lit.wf, Bool.and_eq_true, decide_eq_true_eq, m1, m2] at hw
  exact ⟨i, hw, rfl⟩
theorem list_pick {α : Type} {P : Nat → α → Prop} : ∀ (n : Nat), (∀ i, i < n → ∃ a, P i a) → ∃ xs : List α, xs.length = n ∧ ∀ i (h : i < xs.length), P i xs[i]
  | 0, _ => ⟨[], rfl, by simp⟩
  | n + 1, h => by
    obtain ⟨xs, hl, hx⟩ := list_pick (P := P) n (fun i hi => h i (by omega))
    obtain ⟨a, ha⟩ := h n (by omega)
    refine ⟨xs ++ [a], by simp [hl], fun i hi => ?_⟩
    by_cases hin : i < xs.length
    · rw [List.getElem_append_left hin]; exact hx i hin
    · have : i = n := by simp at hi; omega
      subst this
      rw [List.getElem_append_right (by omega)]
      simpa using ha
theorem kopens_slice {α : Type} {n : Nat} {t e : TypeId} {k : Kd α} {Wf : α → Prop} (ht : P.underlying t = some (.slice e)) (hsz : P.cellsOf e = k.sz) (hpos : 0 < k.sz) (hby : ∀ xs : List α, True → True)
    (ho : ∀ m, m < n → KOpens enc P w base spare held m e k Wf) : KOpens enc P w base spare held n t (Kd.slice e k) (fun xs => xs.length ≤ 9223372036854775807 ∧ ∀ x ∈ xs, Wf x) := by
  intro cs x h
  rcases DataW.trod_slice ht h with ⟨rfl, _⟩ | ⟨a, len, cap, elems, rest, m, hn, rfl, _, hb, hl, hm, hlen, hel, _, _⟩
  · exact ⟨[], ⟨by simp, by simp⟩, none, 0, rfl, by simp, rfl, by simp, fun h => absurd h (by simp)⟩
  · unfold maxLen at hm
    have get : ∀ i, i < len → ∃ p : α, Wf p ∧ ∃ cs', w.cells? base (a.add (i * k.sz)) k.sz = some cs' ∧ k.K w p cs' := by
      intro i hi
      have h1 := hel i hi
      rw [hsz, List.getElem?_eq_getElem (by omega), Option.bind_eq_some_iff] at h1
      obtain ⟨cs', h1, h2⟩ := h1
      obtain ⟨p, hp, hK⟩ := ho m (by omega) _ _ h2
      exact ⟨p, hp, cs', h1, hK⟩
    obtain ⟨xs, hxl, hxs⟩ := list_pick len get
    refine ⟨xs, ⟨by omega, fun p hp => ?_⟩, some a, cap, by rw [hxl], by omega, rfl, by omega, fun _ => ⟨a, rfl, fun j p hj => ?_⟩⟩
    · obtain ⟨i, hi, rfl⟩ := List.getElem_of_mem hp
      exact (hxs i hi).1
    · obtain ⟨hjl, rfl⟩ := List.getElem?_eq_some_iff.1 hj
      obtain ⟨_, cs', hc, hK⟩ := hxs j hjl
      obtain ⟨_, hl', hat'⟩ := World.cells?_some hc
      refine ⟨cs', k.K_len hK, hK, fun i u hu => ?_⟩
      have hi := (List.getElem?_eq_some_iff.1 hu).1
      have h3 := hat' i (by rw [k.K_len hK] at hi; exact hi)
      rw [hu] at h3
      have ha : (a.add (j * k.sz)).add i = a.add (j * k.sz + i) := by
        unfold Addr.add
        by_cases h1 : j * k.sz = 0 <;> by_cases h2 : i = 0 <;> simp [h1, h2, Nat.add_assoc]
      rw [ha] at h3
      exact h3
end
end Go.Proofs.Ytpjpnppoejnafaa.G

/- GKArgs -/
/-
  The arguments of the laws, opened: at this dump's type numbers.
-/
namespace Go.Proofs.Ytpjpnppoejnafaa.G
open Go.RowKit Go.Proofs.YtpjpnppoejnafaaW.PrintWords Go.Proofs.YtpjpnppoejnafaaW.PrintLast Go.Proofs.YtpjpnppoejnafaaW.PrintMore
set_option linter.unusedVariables false
section
variable {H : Type} {enc : TypeId × Value → H} {w : World} {base : Nat} {spare : Nat → Bool} {held : Bool} {v : Value} {d : DataW H} {p : List MemPlace} {r : Reach} {b0 : Nat}
set_option maxRecDepth 20000 in
/-- A slice of such elements. -/
theorem kopen_of {α : Type} {t e : TypeId} {k : Kd α} {Wf : α → Prop} (ht : Try.prog.underlying t = some (.slice e)) (hsz : Try.prog.cellsOf e = k.sz) (hpos : 0 < k.sz) (ho : ∀ m, KOpens enc Try.prog w base spare held m e k Wf)
    (hv : Value.okWide Try.prog w r b0 t v) (h : DataW.Trod enc Try.prog w base spare held t v d p) :
    ∃ (xs : List α) (A : Option Addr) (c : Nat), v = .slice A xs.length c ∧ (xs.length ≤ 9223372036854775807 ∧ ∀ x ∈ xs, Wf x) ∧ xs.length ≤ c ∧ Kd.C k w A xs.length xs := by
  obtain ⟨A, n, c, rfl⟩ := Go.WideShapes.okWide_slice ht hv
  obtain ⟨fuel, h⟩ := h
  obtain ⟨xs, hw, A', c', he, hl, hC⟩ := kopens_slice ht hsz hpos (fun _ _ => trivial) (fun m _ => ho m) _ _ h
  have he' : [Value.slice A n c] = [Value.slice A' xs.length c'] := he
  simp only [List.cons.injEq, and_true] at he'
  exact ⟨xs, A', c', he', hw, hl, hC⟩
set_option maxRecDepth 20000 in
theorem kopen_bytes (hv : Value.okWide Try.prog w r b0 45 v) (h : DataW.Trod enc Try.prog w base spare held 45 v d p) :
    ∃ (xs : List Int) (A : Option Addr) (c : Nat), v = .slice A xs.length c ∧ (xs.length ≤ 9223372036854775807 ∧ ∀ x ∈ xs, 0 ≤ x ∧ x ≤ 255) ∧ xs.length ≤ c ∧ Kd.C (Kd.int .u8) w A xs.length xs :=
  kopen_of Try.underlying45 (by kernel_rfl) (by decide) (fun m => kopens_u8 Try.underlying5) hv h
end
end Go.Proofs.Ytpjpnppoejnafaa.G

/- RowFnMatched -/
/- The law 'FnMatched' holds for every input: it returns true, and each argument reads behind the call as it read before. No condition. -/
namespace Go.Proofs.Ytpjpnppoejnafaa.fnMatched
open Go.ChangeShapes Go.WideShapes Go.ChangeAt Go.RowKit
set_option linter.unusedVariables false
theorem own : ownKnob Try.prog.godebug = none := by kernel_rfl
theorem laidOut : laidOutB Try.prog = true := by kernel_rfl
set_option maxRecDepth 100000 in
theorem lifted (os : Os) (started : os.Started) (H : Type) (enc : TypeId × Value → H) :
    ReturnsInHanded {} Try.checked os 10 .any (Rows.fnMatchedSpec.pre6 enc Try.prog Try.f10 Rows.fnMatchedRow.domain false) (Rows.fnMatchedSpec.post enc Try.prog Try.f10 false true false false) := by
  refine returnsInHanded_of_change (C := Try.checked) own started (by kernel_rfl) Try.func10
    (ChangeSpec.witness6 (enc := enc) (C := Try.checked) false ⟨#[], #[.slice none 0 0], []⟩ 8 (by kernel_rfl) (by kernel_rfl) (by kernel_rfl) (by kernel_rfl)) ?_
  intro W base args ds gs before hval0 hW hcnd _
  have hval : ∀ (j : Nat) t v, Try.f10.params[j]? = some t → args[j]? = some v → Value.okWide Try.prog W .any base t v := hval0
  have hW' := hW
  obtain ⟨p, q, hA0, hV, rfl, hfz, hnd⟩ := hW
  have hA : DataW.TrodAll enc Try.prog W 0 (fun _ => true) true Try.f10.params.toList args.toList ds p := hA0
  rw [Try.params10] at hA hval
  obtain ⟨v0, vs0, d0, ds0, p0, q0, hargs0, rfl, rfl, h0, r0x⟩ := trodAll_cons hA
  obtain ⟨rfl, rfl, rfl⟩ := trodAll_nil r0x
  obtain rfl : args = #[v0] := by cases args; simp_all
  obtain ⟨rfl, rfl⟩ := trodVars_none hV
  have hlt := hW'.lt
  have hk0 := h0
  obtain ⟨x0, A0, c0, rfl, w0, l0, q0⟩ := G.kopen_bytes (hval 0 45 v0 rfl rfl) h0
  clear hA0 hval0
  obtain ⟨k, hk⟩ := G.FnMatched_pure x0 w0
  refine (G.laws_FnMatched.calls k A0 c0 x0 true W q0 l0 hk).mono fun e W' ⟨he, bel⟩ => ?_
  subst he
  exact ⟨_, rfl, _, _, _, [], _, [], hW', trodAll_mk1 (shut_bool Try.underlying4 _), (trodAll_cons_mk (Below.trod laidOut (by kernel_rfl) (of_decide_eq_true (by kernel_rfl)) hk0 bel (fun x hx => hlt x (by simp [hx]))) trodAll_mk0), rfl, bel.frame _, fun h => by cases h⟩
theorem over : Rows.fnMatchedRow.holds Try.pinned (OpenSpec.ofChange Rows.fnMatchedSpec) :=
  OpenClaim.holds_of_wide 10 Try.f10 rfl rfl rfl rfl rfl rfl rfl ⟨rfl, rfl, rfl, rfl, rfl⟩ rfl rfl rfl rfl rfl (by kernel_rfl) Try.func10 (by kernel_rfl)
    (of_decide_eq_true (by kernel_rfl)) (by unfold Func.isWrapper; first | (rw [if_pos (by decide +kernel)]; kernel_rfl) | (rw [if_neg (by decide +kernel)]; exact ⟨rfl, rfl⟩))
    (fun os started H enc _ => lifted os started H enc)
theorem proved : Rows.FnMatchedSaid := over
#print axioms proved
end Go.Proofs.Ytpjpnppoejnafaa.fnMatched
namespace Go.Proofs.Ytpjpnppoejnafaa
theorem fnMatched_holds : Rows.FnMatchedSaid := fnMatched.proved
end Go.Proofs.Ytpjpnppoejnafaa
