import Derived.Test.YtpjpnppoejnafaaDoorMFnLabelsCard6
import Derived.Test.YtpjpnppoejnafaaDoorMFnLabelsCard7
import Derived.Test.YtpjpnppoejnafaaDoorMFnLabelsCard8
import Derived.Test.YtpjpnppoejnafaaDoorMFnLabelsCard9
import Derived.Test.YtpjpnppoejnafaaDoorMFnLabelsCard1
import Derived.ChangeArms
import Derived.ChangeShapes
import Derived.DataReads
import Derived.Test.YtpjpnppoejnafaaDoorProg
import Derived.WideShapes
import Derived.KernelRfl
import Derived.Handed
import Derived.Test.YtpjpnppoejnafaaDoorRows
import Derived.WalkKit
import Derived.ProofKit
import Derived.OpenShut
import Derived.ShutString
import Derived.ChangeOld
import Derived.Carry
import Derived.Below
import Derived.Test.YtpjpnppoejnafaaDoorCards
import Derived.Test.YtpjpnppoejnafaaDoorTie
import Derived.Lay
import Derived.LaidMore
import Derived.SevenTiedAt
import Derived.Stop.Joined
/- PLabelsLaw -/
/-
  The law FnLabels: a label set in drawn labels is found, and nothing else is otherwise; dropped it is gone; labels come back of their text.
-/
namespace Go.Proofs.YtpjpnppoejnafaaDoor.G
open Go.RowKit Go.Proofs.YtpjpnppoejnafaaDoorW.PrintWords Go.Proofs.YtpjpnppoejnafaaDoorW.PrintLast Go.Proofs.YtpjpnppoejnafaaDoorW.PrintMore
set_option linter.unusedVariables false
set_option linter.unusedSimpArgs false
/-- Keys go up: what is found is it. -/
theorem labGet_of {xs : List ILab} (h : xs.Pairwise (fun x y => Op.bytesLess x.f0.toList y.f0.toList = true)) {y : ILab} (hy : y ∈ xs) : labGet xs y.f0 = (y.f1, true) := by
  unfold labGet
  cases hf : (List.range xs.length).find? (fun i : Nat => decide ((rd_T42 xs i).f0.toList = y.f0.toList)) with
  | none =>
    obtain ⟨i, hi, rfl⟩ := List.getElem_of_mem hy
    have := List.find?_eq_none.1 hf i (by simpa using hi)
    rw [rdIL hi] at this
    simp at this
  | some i =>
    have h1 := List.find?_some hf
    have h2 : i < xs.length := by simpa using List.mem_of_find?_eq_some hf
    rw [rdIL h2] at h1
    have h3 := of_decide_eq_true h1
    obtain ⟨j, hj, rfl⟩ := List.getElem_of_mem hy
    have e : i = j := by
      rcases Nat.lt_trichotomy i j with hlt | he | hgt
      · have := List.pairwise_iff_getElem.1 h i j h2 hj hlt
        rw [h3, bl_irrefl] at this; cases this
      · exact he
      · have := List.pairwise_iff_getElem.1 h j i hj h2 hgt
        rw [h3, bl_irrefl] at this; cases this
    subst e
    simp only [Option.elim_some]
    rw [rdIL h2]
section
variable {xs : List ILab} {key v : ByteArray}
theorem ins_eq (h : labsB xs = true) : insB key v false xs = xs.takeWhile (fun x => Op.bytesLess x.f0.toList key.toList) ++ ⟨key, v⟩ :: (xs.dropWhile (fun x => Op.bytesLess x.f0.toList key.toList)).filter (fun x => !(x.f0.toList == key.toList)) := insB_false key v xs
theorem take_less {x : ILab} (h : x ∈ xs.takeWhile (fun x => Op.bytesLess x.f0.toList key.toList)) : Op.bytesLess x.f0.toList key.toList = true := by
  have := List.all_takeWhile (p := fun x : ILab => Op.bytesLess x.f0.toList key.toList) (l := xs)
  exact List.all_eq_true.1 this x h
theorem ins_mem (h : labsB xs = true) {x : ILab} : x ∈ insB key v false xs ↔ (x ∈ xs ∧ x.f0.toList ≠ key.toList) ∨ x = ⟨key, v⟩ := by
  rw [ins_eq h]
  constructor
  · intro hx
    rcases List.mem_append.1 hx with hx | hx
    · refine .inl ⟨List.takeWhile_subset _ hx, fun e => ?_⟩
      have := take_less hx
      rw [e, bl_irrefl] at this; cases this
    · rcases List.mem_cons.1 hx with rfl | hx
      · exact .inr rfl
      · obtain ⟨h1, h2⟩ := List.mem_filter.1 hx
        refine .inl ⟨List.dropWhile_subset _ h1, fun e => ?_⟩
        rw [e] at h2; simp at h2
  · rintro (⟨hx, hne⟩ | rfl)
    · rw [← List.takeWhile_append_dropWhile (p := fun x : ILab => Op.bytesLess x.f0.toList key.toList) (l := xs)] at hx
      rcases List.mem_append.1 hx with hx | hx
      · exact List.mem_append_left _ hx
      · exact List.mem_append_right _ (List.mem_cons_of_mem _ (List.mem_filter.2 ⟨hx, by simpa using hne⟩))
    · exact List.mem_append_right _ List.mem_cons_self
theorem ins_up (h : labsB xs = true) : (insB key v false xs).Pairwise (fun x y => Op.bytesLess x.f0.toList y.f0.toList = true) := by
  have hu := labs_up h
  rw [ins_eq h]
  have hsplit := hu
  rw [← List.takeWhile_append_dropWhile (p := fun x : ILab => Op.bytesLess x.f0.toList key.toList) (l := xs)] at hsplit
  rw [List.pairwise_append] at hsplit ⊢
  obtain ⟨p1, p2, p3⟩ := hsplit
  have hgt : ∀ x ∈ (xs.dropWhile (fun x => Op.bytesLess x.f0.toList key.toList)).filter (fun x => !(x.f0.toList == key.toList)), Op.bytesLess key.toList x.f0.toList = true := fun x hx => by
    obtain ⟨h1, h2⟩ := List.mem_filter.1 hx
    have h3 := up_parts (key := fun x : ILab => x.f0.toList) hu x h1
    exact bl_total (Bool.eq_false_iff.2 h3) (by simpa using h2)
  refine ⟨p1, ?_, fun a ha b hb => ?_⟩
  · rw [List.pairwise_cons]
    exact ⟨hgt, p2.filter _⟩
  · rcases List.mem_cons.1 hb with rfl | hb
    · exact take_less ha
    · exact bl_trans (take_less ha) (hgt b hb)
theorem ins_len (h : labsB xs = true) : (insB key v false xs).length = (dropLab xs key).length + 1 := by
  rw [ins_eq h]
  have e : dropLab xs key = xs.takeWhile (fun x => Op.bytesLess x.f0.toList key.toList) ++ (xs.dropWhile (fun x => Op.bytesLess x.f0.toList key.toList)).filter (fun x => !(x.f0.toList == key.toList)) := by
    unfold dropLab
    conv => lhs; rw [← List.takeWhile_append_dropWhile (p := fun x : ILab => Op.bytesLess x.f0.toList key.toList) (l := xs)]
    rw [List.filter_append]
    congr 1
    rw [List.filter_eq_self]
    intro x hx
    have := take_less hx
    simp only [Bool.not_eq_true', beq_eq_false_iff_ne]
    intro e2
    rw [e2, bl_irrefl] at this; cases this
  rw [e]; simp; omega
theorem ins_ok (h : setOk xs key v = true) : labsB (insB key v false xs) = true := by
  simp only [setOk, Bool.and_eq_true] at h
  obtain ⟨hl, hk, hv, hlen⟩ := h
  obtain ⟨h8, hn⟩ := labsB_parts hl
  have hu := ins_up (key := key) (v := v) hl
  have hnm : ∀ x ∈ insB key v false xs, nameB x.f0 = true ∧ nameB x.f1 = true := fun x hx => by
    rcases (ins_mem hl).1 hx with ⟨hx, _⟩ | rfl
    · obtain ⟨i, hi, rfl⟩ := List.getElem_of_mem hx
      exact hn i hi
    · exact ⟨hk, hv⟩
  have hle : (insB key v false xs).length ≤ 8 := by
    rw [ins_len hl]
    by_cases c : ∃ x ∈ xs, x.f0.toList = key.toList
    · have := filter_ne_len c; omega
    · have h1 := drop_none c
      rw [h1]
      have h2 : ¬ (labGet xs key).2 = true := fun e => c (labGet_has.1 e)
      simp only [Bool.or_eq_true, h2, false_or, bne_iff_ne, ne_eq] at hlen
      have h3 : xs.length ≠ 8 := fun e => (hlen.resolve_left (by simp)) (by rw [e]; rfl)
      omega
  simp only [labsB, Bool.and_eq_true, decide_eq_true_eq]
  refine ⟨allN_true.2 (fun i hi => ?_), by omega⟩
  simp only [labOkAt, Bool.and_eq_true, Bool.or_eq_true, beq_iff_eq]
  rw [rdIL hi]
  obtain ⟨n0, n1⟩ := hnm _ (List.getElem_mem hi)
  refine ⟨n0, n1, ?_⟩
  by_cases c : i = 0
  · exact .inl c
  · right
    rw [rdIL (by omega : i - 1 < (insB key v false xs).length)]
    exact List.pairwise_iff_getElem.1 hu (i - 1) i (by omega) hi (by omega)
end
def SetDrawn (r : List ILab × ByteArray × ByteArray) : Prop := r.1.length ≤ 1000 ∧ (∀ x ∈ r.1, smLab x) ∧ r.2.1.size ≤ 21 ∧ r.2.2.size ≤ 21
theorem drawLabelSet_tot (cs : List Int) (hl : cs.length ≤ 1048576) : Tot (fun k => spec_DrawLabelSet.f k cs) SetDrawn := by
  unfold spec_DrawLabelSet.f
  refine Tot.bind (l1New_tot cs hl) (fun a ha => ?_)
  obtain ⟨e, hc⟩ := ha
  rw [e]
  exact Tot.bind (l1DrawAny_tot cs _ _ hc) (fun b hb => Tot.bind (l1NameAny_tot cs _ _ hb.2.2) (fun c hc => Tot.bind (l1NameAny_tot cs _ _ hc.2) (fun d hd => Tot.some ⟨hb.1, hb.2.1, hc.1, hd.1⟩)))
theorem labs_same (n : List ILab) (key v val : ByteArray) (gone : Bool) (hok : labsB n = true) (hk : nameB key = true) (hval : val = v) (hg : gone = false) (hw : wfILabs n) (hks : key.size ≤ 9223372036854775807) : ∀ (d i : Nat), i + d = n.length →
    Ev (fun k => laws_FnLabels.l1 k key v n val true gone n i) true
  | 0, i, hd => by
    refine Ev.step (fun k => by rw [laws_FnLabels.l1]) (ev_if_neg (by omega) (ev_if_pos rfl (ev_if_pos (by rw [hval]) (ev_if_neg (by rw [hg]; simp) ?_))))
    exact Ev.bind (implLabelsOk_ev n hw) (ev_if_pos hok (Ev.bind (implNameOk_ev key hks) (ev_some hk)))
  | d + 1, i, hd => by
    have hi : i < n.length := by omega
    have ih := labs_same n key v val gone hok hk hval hg hw hks d (i + 1) (by omega)
    have hl := (labsB_parts hok).1
    refine Ev.step (fun k => by rw [laws_FnLabels.l1]) (ev_if_pos (by omega) (ev_if_pos (by omega) (ev_if_pos (by omega) (ev_if_neg (by simp) ?_))))
    rw [wsucc hi (by omega)]
    exact ih
theorem FnLabels_pure (l0 : List Int) (hw : l0.length ≤ 9223372036854775807 ∧ ∀ x ∈ l0, 0 ≤ x ∧ x ≤ 255) : ∃ k, laws_FnLabels.f k l0 = some true := by
  refine Ev.rounds ?_
  unfold laws_FnLabels.f laws_big.f
  simp only [Option.bind_some]
  by_cases c : (l0.length : Int) > 1048576
  · exact ev_if_pos (decide_eq_true c) (Ev.now _)
  refine ev_if_neg (by simpa using c) ?_
  obtain ⟨⟨xs, key, v⟩, hr, hx, hsm, hks, hvs⟩ := drawLabelSet_tot l0 (by omega)
  have hx : xs.length ≤ 1000 := hx
  have hks : key.size ≤ 21 := hks
  have hvs : v.size ≤ 21 := hvs
  have hwf := wfILabs_sm hx hsm
  refine Ev.bind hr (Ev.bind (implLabelSet_ev xs key v hwf (by omega) (by omega) (by omega)) (Ev.bind (specLabelSet_ev xs key v hwf (by omega) (by omega) (by omega)) (ev_if_neg (by simp) ?_)))
  by_cases ho : setOk xs key v = true
  · have e : labSet xs key v = (insB key v false xs, true) := by unfold labSet; rw [if_pos ho]
    rw [e]
    refine ev_if_pos rfl ?_
    have hok := ins_ok ho
    have hl8 := (labsB_parts hok).1
    have hu := labs_up hok
    have ho2 := ho
    simp only [setOk, Bool.and_eq_true] at ho2
    obtain ⟨hl, hk, hv, _⟩ := ho2
    have hget : labGet (insB key v false xs) key = (v, true) := labGet_of hu ((ins_mem hl).2 (.inr rfl) : (⟨key, v⟩ : ILab) ∈ _)
    have hgone : (labGet (dropLab (insB key v false xs) key) key).2 = false := by
      rw [← Bool.not_eq_true, labGet_has]
      rintro ⟨x, hx, he⟩
      have := (List.mem_filter.1 hx).2
      rw [he] at this; simp at this
    generalize hn : insB key v false xs = n at *
    have hwn : wfILabs n := ⟨by omega, fun x hx => by
      rw [← hn] at hx
      rcases (ins_mem hl).1 hx with ⟨hx, _⟩ | rfl
      · exact hwf.2 x hx
      · exact ⟨by show key.size ≤ _; omega, by show v.size ≤ _; omega⟩⟩
    have hdl := dropLab_len n key
    refine Ev.bind (implLabelGet_ev n key hwn.1) ?_
    rw [hget]
    refine Ev.bind (ev_now (implLabelDrop_f n key (by omega))) (Ev.bind (implLabelGet_ev _ key (by omega)) ?_)
    rw [hgone]
    have loop : ∀ (d i : Nat), i + d = xs.length → Ev (fun k => laws_FnLabels.l0 k xs key v n v true false i) true := by
      intro d
      induction d with
      | zero =>
        intro i hi
        refine Ev.step (fun k => by rw [laws_FnLabels.l0]) (ev_if_neg (by omega) (Ev.bind (implLabelsText_ev n hwn) ?_))
        have hts : (labsTxt n).size ≤ 1048576 := by
          unfold labsTxt
          rw [if_pos hok]
          have := (labs_size hok).1
          omega
        have hp := implParse_ev (labsTxt n) hts
        rw [parseL_text n hok] at hp
        refine Ev.bind hp (ev_if_pos rfl ?_)
        refine Ev.step (fun k => by rw [laws_FnLabels.j1]) (ev_if_neg (by simp) ?_)
        exact labs_same n key v v false hok hk rfl rfl hwn (by omega) n.length 0 (by omega)
      | succ d ih =>
        intro i hi
        have hi' : i < xs.length := by omega
        refine Ev.step (fun k => by rw [laws_FnLabels.l0]) (ev_if_pos (by omega) (ev_if_pos (by omega) ?_))
        rw [wsucc hi' (by omega), rdIL hi']
        refine Ev.bind (implLabelGet_ev n _ hwn.1) ?_
        by_cases ck : xs[i].f0.toList = key.toList
        · have ek := tl_eq.1 ck
          rw [ek, hget]
          exact ev_if_pos rfl (ev_if_pos rfl (ih (i + 1) (by omega)))
        · have hm : xs[i] ∈ n := by rw [← hn]; exact (ins_mem hl).2 (.inl ⟨List.getElem_mem hi', ck⟩)
          rw [labGet_of hu hm]
          exact ev_if_pos rfl (ev_if_neg ck (ev_if_pos rfl (ih (i + 1) (by omega))))
    exact loop xs.length 0 (by omega)
  · have e : labSet xs key v = (xs, false) := by unfold labSet; rw [if_neg ho]
    rw [e]
    exact ev_if_neg (by simp) (ev_some (by simp))
end Go.Proofs.YtpjpnppoejnafaaDoor.G

/- GKOpen -/
/-
  An argument that can be read as data (the form's own reading) is of a kind 'Kd'; and what is known of it besides ('Wf').
-/
namespace Go.Proofs.YtpjpnppoejnafaaDoor.G
open Go.RowKit Go.Proofs.YtpjpnppoejnafaaDoorW.PrintWords Go.Proofs.YtpjpnppoejnafaaDoorW.PrintLast Go.Proofs.YtpjpnppoejnafaaDoorW.PrintMore
set_option linter.unusedVariables false
section
variable {H : Type} {enc : TypeId × Value → H} {P : Program} {w : World} {base : Nat} {spare : Nat → Bool} {held : Bool}
def KOpens {α : Type} (enc : TypeId × Value → H) (P : Program) (w : World) (base : Nat) (spare : Nat → Bool) (held : Bool) (n : Nat) (t : TypeId) (k : Kd α) (Wf : α → Prop) : Prop :=
  ∀ cs x, DataW.trod enc P w base spare held n t cs = some x → ∃ a, Wf a ∧ k.K w a cs
theorem kopens_u8 {n : Nat} {t : TypeId} (ht : P.underlying t = some (.int .u8)) : KOpens enc P w base spare held n t (Kd.int .u8) (fun i => 0 ≤ i ∧ i ≤ 255) := by
  intro cs x h
  obtain ⟨i, rfl, _, hw⟩ := DataW.trod_int ht h
  have m1 : IntKind.u8.min = 0 := by decide
  have m2 : IntKind.u8.max = 255 := by decide
  simp only [Lit.wf, Bool.and_eq_true, decide_eq_true_eq, m1, m2] at hw
  exact ⟨i, hw, rfl⟩
theorem list_pick {α : Type} {P : Nat → α → Prop} : ∀ (n : Nat), (∀ i, i < n → ∃ a, P i a) → ∃ xs : List α, xs.length = n ∧ ∀ i (h : i < xs.length), P i xs[i]
  | 0, _ => ⟨[], rfl, by simp⟩
  | n + 1, h => by
    obtain ⟨xs, hl, hx⟩ := list_pick (P := P) n (fun i hi => h i (by omega))
    obtain ⟨a, ha⟩ := h n (by omega)
    refine ⟨xs ++ [a], by simp [hl], fun i hi => ?_⟩
    by_cases hin : i < xs.length
    · rw [List.getElem_append_left hin]; exact hx i hin
    · have : i = n := by simp at hi; omega
      subst this
      rw [List.getElem_append_right (by omega)]
      simpa using ha
theorem kopens_slice {α : Type} {n : Nat} {t e : TypeId} {k : Kd α} {Wf : α → Prop} (ht : P.underlying t = some (.slice e)) (hsz : P.cellsOf e = k.sz) (hpos : 0 < k.sz) (hby : ∀ xs : List α, True → True)
    (ho : ∀ m, m < n → KOpens enc P w base spare held m e k Wf) : KOpens enc P w base spare held n t (Kd.slice e k) (fun xs => xs.length ≤ 9223372036854775807 ∧ ∀ x ∈ xs, Wf x) := by
  intro cs x h
  rcases DataW.trod_slice ht h with ⟨rfl, _⟩ | ⟨a, len, cap, elems, rest, m, hn, rfl, _, hb, hl, hm, hlen, hel, _, _⟩
  · exact ⟨[], ⟨by simp, by simp⟩, none, 0, rfl, by simp, rfl, by simp, fun h => absurd h (by simp)⟩
  · unfold maxLen at hm
    have get : ∀ i, i < len → ∃ p : α, Wf p ∧ ∃ cs', w.cells? base (a.add (i * k.sz)) k.sz = some cs' ∧ k.K w p cs' := by
      intro i hi
      have h1 := hel i hi
      rw [hsz, List.getElem?_eq_getElem (by omega), Option.bind_eq_some_iff] at h1
      obtain ⟨cs', h1, h2⟩ := h1
      obtain ⟨p, hp, hK⟩ := ho m (by omega) _ _ h2
      exact ⟨p, hp, cs', h1, hK⟩
    obtain ⟨xs, hxl, hxs⟩ := list_pick len get
    refine ⟨xs, ⟨by omega, fun p hp => ?_⟩, some a, cap, by rw [hxl], by omega, rfl, by omega, fun _ => ⟨a, rfl, fun j p hj => ?_⟩⟩
    · obtain ⟨i, hi, rfl⟩ := List.getElem_of_mem hp
      exact (hxs i hi).1
    · obtain ⟨hjl, rfl⟩ := List.getElem?_eq_some_iff.1 hj
      obtain ⟨_, cs', hc, hK⟩ := hxs j hjl
      obtain ⟨_, hl', hat'⟩ := World.cells?_some hc
      refine ⟨cs', k.K_len hK, hK, fun i u hu => ?_⟩
      have hi := (List.getElem?_eq_some_iff.1 hu).1
      have h3 := hat' i (by rw [k.K_len hK] at hi; exact hi)
      rw [hu] at h3
      have ha : (a.add (j * k.sz)).add i = a.add (j * k.sz + i) := by
        unfold Addr.add
        by_cases h1 : j * k.sz = 0 <;> by_cases h2 : i = 0 <;> simp [h1, h2, Nat.add_assoc]
      rw [ha] at h3
      exact h3
end
end Go.Proofs.YtpjpnppoejnafaaDoor.G

/- GKArgs -/
/-
  The arguments of the laws, opened: at this dump's type numbers.
-/
namespace Go.Proofs.YtpjpnppoejnafaaDoor.G
open Go.RowKit Go.Proofs.YtpjpnppoejnafaaDoorW.PrintWords Go.Proofs.YtpjpnppoejnafaaDoorW.PrintLast Go.Proofs.YtpjpnppoejnafaaDoorW.PrintMore
set_option linter.unusedVariables false
section
variable {H : Type} {enc : TypeId × Value → H} {w : World} {base : Nat} {spare : Nat → Bool} {held : Bool} {v : Value} {d : DataW H} {p : List MemPlace} {r : Reach} {b0 : Nat}
set_option maxRecDepth 20000 in
/-- A slice of such elements. -/
theorem kopen_of {α : Type} {t e : TypeId} {k : Kd α} {Wf : α → Prop} (ht : Tryd.prog.underlying t = some (.slice e)) (hsz : Tryd.prog.cellsOf e = k.sz) (hpos : 0 < k.sz) (ho : ∀ m, KOpens enc Tryd.prog w base spare held m e k Wf)
    (hv : Value.okWide Tryd.prog w r b0 t v) (h : DataW.Trod enc Tryd.prog w base spare held t v d p) :
    ∃ (xs : List α) (A : Option Addr) (c : Nat), v = .slice A xs.length c ∧ (xs.length ≤ 9223372036854775807 ∧ ∀ x ∈ xs, Wf x) ∧ xs.length ≤ c ∧ Kd.C k w A xs.length xs := by
  obtain ⟨A, n, c, rfl⟩ := Go.WideShapes.okWide_slice ht hv
  obtain ⟨fuel, h⟩ := h
  obtain ⟨xs, hw, A', c', he, hl, hC⟩ := kopens_slice ht hsz hpos (fun _ _ => trivial) (fun m _ => ho m) _ _ h
  have he' : [Value.slice A n c] = [Value.slice A' xs.length c'] := he
  simp only [List.cons.injEq, and_true] at he'
  exact ⟨xs, A', c', he', hw, hl, hC⟩
set_option maxRecDepth 20000 in
theorem kopen_bytes (hv : Value.okWide Tryd.prog w r b0 33 v) (h : DataW.Trod enc Tryd.prog w base spare held 33 v d p) :
    ∃ (xs : List Int) (A : Option Addr) (c : Nat), v = .slice A xs.length c ∧ (xs.length ≤ 9223372036854775807 ∧ ∀ x ∈ xs, 0 ≤ x ∧ x ≤ 255) ∧ xs.length ≤ c ∧ Kd.C (Kd.int .u8) w A xs.length xs :=
  kopen_of Tryd.underlying33 (by kernel_rfl) (by decide) (fun m => kopens_u8 Tryd.underlying5) hv h
end
end Go.Proofs.YtpjpnppoejnafaaDoor.G

/- GKRow -/
/-
  The row's wrap over listed variables, the world's shape kept.
-/
namespace Go.Proofs.YtpjpnppoejnafaaDoor.G
open Go Go.Proofs

theorem change_and_shaped {H : Type} {enc : TypeId × Value → H} {a : Assume} {C : Checked} {os : Os} {f : FuncId} {fn : Func} {s : ChangeSpec} {conds : List PathCond} {apart fresh handsOn again : Bool} {X : World → Array Value → Prop}
    (hX : ∀ (w w' : World) (args : Array Value), w.heap = w'.heap → X w args → X w' args)
    (own : ownKnob C.prog.godebug = none) (started : os.Started) (noInit : C.prog.inits.idxOf? f = none) (hfn : C.prog.funcs[f]? = some fn)
    (witness : ∃ (w : World) (tape : Tape) (i : Input), w.os = os ∧ (w.forCall tape i).Shaped C.prog ∧ i.vars = [] ∧ Input.okWide C.prog (w.forCall tape i) .any w.heap.size f i ∧
      ((s.pre enc C.prog fn conds apart (w.forCall tape i).memory i.args ∧ X (w.forCall tape i).memory i.args) ∧ sizedMet enc C.prog fn (OpenSpec.ofChange s) apart (w.forCall tape i).memory i.args) ∧ a.holds C.prog (lone (Frame.enter C.prog f i.args .normal) [] (w.forCall tape i)))
    (contract : ∀ (W : World) (base : Nat) (args : Array Value) (ds gs : List (DataW H)) (before : List MemPlace),
      (∀ (j : Nat) t v, fn.params[j]? = some t → args[j]? = some v → Value.okWide C.prog W .any base t v) →
      DataW.Whole enc C.prog fn.params.toList s.vars apart W args.toList ds gs before →
      conds.all (PathCond.test C.prog ⟨fn.params.toList, ds, s.plain.varTypes C.prog, gs⟩) = true →
      (DataW.weightsEach C.prog (fn.params.toList ++ s.plain.varTypes C.prog) (ds ++ gs)).all (· ≤ reachBytes) = true → X W args → W.ShapedOpen C.prog →
      a.holds C.prog (lone (Frame.enter C.prog f args .normal) [] W) →
      Calls C.prog f args W fun e W' => ∃ v, e = .returned v ∧ s.post enc C.prog fn apart fresh handsOn again W args v W') :
    ReturnsInHanded a C os f .any (fun w args => (s.pre enc C.prog fn conds apart w args ∧ X w args) ∧ sizedMet enc C.prog fn (OpenSpec.ofChange s) apart w args) (s.post enc C.prog fn apart fresh handsOn again) := by
  refine returnsInHanded_of_calls own started noInit witness ?_
  intro w tape i _ hsh _ hok hpre hholds
  obtain ⟨_, _, _, fn', hfn', _, _, _, _, hval⟩ := hok
  have e : fn' = fn := Option.some.inj (hfn'.symm.trans hfn)
  subst e
  obtain ⟨⟨⟨ds, gs, before, hw, hc⟩, hx⟩, hz⟩ := hpre
  have hw' := DataW.Whole.of_heap (w' := w.forCall tape i) (by rfl) hw
  refine (contract (w.forCall tape i) w.heap.size i.args ds gs before hval hw' hc (hz.weights hw) (hX _ _ _ (by rfl) hx) hsh hholds).mono fun e W' ⟨v, he, hp⟩ => ?_
  subst he
  exact ChangeSpec.post_blind hp
end Go.Proofs.YtpjpnppoejnafaaDoor.G

/- RowFnLabelsCard -/
/- The law 'FnLabels' holds for every input: it returns true, and each argument reads behind the call as it read before. No condition. -/
namespace Go.Proofs.YtpjpnppoejnafaaDoor.fnLabels
open Go.ChangeShapes Go.WideShapes Go.ChangeAt Go.RowKit
set_option linter.unusedVariables false
theorem own : ownKnob Tryd.prog.godebug = none := by kernel_rfl
theorem laidOut : laidOutB Tryd.prog = true := by kernel_rfl
set_option maxRecDepth 100000 in
theorem lifted (os : Os) (started : os.Started) (H : Type) (enc : TypeId × Value → H) :
    ReturnsInHanded {} Tryd.checked os 5 .any (fun w args => (Rows.fnLabelsSpec.pre enc Tryd.prog Tryd.f5 Rows.fnLabelsRow.domain false w args ∧ laidMetH Tryd.prog Rows.fnLabelsRow.laid w) ∧ sizedMet enc Tryd.prog Tryd.f5 (OpenSpec.ofChange Rows.fnLabelsSpec) false w args) (Rows.fnLabelsSpec.post enc Tryd.prog Tryd.f5 false true false false) := by
  refine G.change_and_shaped (C := Tryd.checked) (X := fun w _ => laidMetH Tryd.prog Rows.fnLabelsRow.laid w) (fun _ _ _ hh h => h.of_heap hh) own started (by kernel_rfl) Tryd.func5
    (ChangeSpec.witness_shaped (enc := enc) (C := Tryd.checked) (os := os) (X := fun w _ => laidMetH Tryd.prog Rows.fnLabelsRow.laid w) false (World.laidAll Tryd.prog os Rows.fnLabelsRow.laid) #[.slice none 0 0] 8 (World.laidAll_os _ _ _)
      (World.shaped_of_ZipB (by kernel_rfl) (by kernel_rfl)) (by kernel_rfl) (by kernel_rfl) (by kernel_rfl)
      (by rw [MakeChecks.laidMetH_plain _ _ _ (by kernel_rfl)]; exact laidMet_laidAll _ (by kernel_rfl) (by kernel_rfl))) ?_
  intro W base args ds gs before hval0 hW hcnd _ hL hshape _
  have hval : ∀ (j : Nat) t v, Tryd.f5.params[j]? = some t → args[j]? = some v → Value.okWide Tryd.prog W .any base t v := hval0
  have hW' := hW
  obtain ⟨p, q, hA0, hV, rfl, hfz, hnd⟩ := hW
  have hA : DataW.TrodAll enc Tryd.prog W 0 (fun _ => true) true Tryd.f5.params.toList args.toList ds p := hA0
  rw [Tryd.params5] at hA hval
  obtain ⟨v0, vs0, d0, ds0, p0, q0, hargs0, rfl, rfl, h0, r0x⟩ := trodAll_cons hA
  obtain ⟨rfl, rfl, rfl⟩ := trodAll_nil r0x
  obtain rfl : args = #[v0] := by cases args; simp_all
  obtain ⟨rfl, rfl⟩ := trodVars_none hV
  have hlt := hW'.lt
  have hk0 := h0
  obtain ⟨x0, A0, c0, rfl, w0, l0, q0⟩ := G.kopen_bytes (hval 0 33 v0 rfl rfl) h0
  clear hA0 hval0
  obtain ⟨k, hk⟩ := G.FnLabels_pure x0 w0
  refine (G.laws_FnLabels.calls k A0 c0 x0 true W q0 l0 (G.SH.of hshape) hk).mono fun e W' ⟨he, bel⟩ => ?_
  subst he
  exact ⟨_, rfl, _, _, _, [], _, [], hW', trodAll_mk1 (shut_bool Tryd.underlying4 _), (trodAll_cons_mk (Below.trod laidOut (by kernel_rfl) (of_decide_eq_true (by kernel_rfl)) hk0 bel (fun x hx => hlt x (by simp [hx]))) trodAll_mk0), rfl, bel.frame _, fun h => by cases h⟩
theorem over : Rows.fnLabelsRow.holds Tryd.pinned (OpenSpec.ofChange Rows.fnLabelsSpec) :=
  OpenClaim.holds_of_wide 5 Tryd.f5 rfl rfl rfl rfl rfl rfl rfl ⟨rfl, rfl, rfl, rfl, rfl⟩ rfl rfl rfl rfl rfl (by kernel_rfl) Tryd.func5 (by kernel_rfl)
    (of_decide_eq_true (by kernel_rfl)) (by unfold Func.isWrapper; first | (rw [if_pos (by decide +kernel)]; kernel_rfl) | (rw [if_neg (by decide +kernel)]; exact ⟨rfl, rfl⟩))
    (fun os started H enc _ => lifted os started H enc)
theorem proved : Rows.FnLabelsSaid := over
#print axioms proved
end Go.Proofs.YtpjpnppoejnafaaDoor.fnLabels
namespace Go.Proofs.YtpjpnppoejnafaaDoor
theorem fnLabelsCard_holds : Rows.FnLabelsCardSaid :=
  Claim7.holds_tied_plain_at .later [] [.data, .pinned] true (true, "ba4f657fa8b592f274b6cc130ab971ee82f2b4c39185dd714d5d2eff0ed06bdc") false fnLabels.proved (fun _ h => by cases h) (by kernel_rfl) (fun _ h => by cases h) fnLabels_row_tie rfl ⟨rfl, rfl⟩ (by kernel_rfl) rfl
    (fun f fn hf hfn => by
      obtain rfl : f = 5 := Option.some.inj ((show Tryd.prog.funcNamed "loop.example/g00119/laws.FnLabels" = some 5 by kernel_rfl).symm.trans hf) |>.symm
      obtain rfl : fn = Tryd.f5 := (Option.some.inj (Tryd.func5.symm.trans hfn)).symm
      exact ⟨by kernel_rfl, fun j t ht => by
        rw [Tryd.params5] at ht
        have hm : t ∈ [33] := by simpa using Array.mem_of_getElem? ht
        have hall : ([33].all fun u => !Tryd.prog.wantsStandIn u) = true := by kernel_rfl
        exact (show Tryd.prog.wantsStandIn t = false by simpa using List.all_eq_true.1 hall t hm)⟩)
    (by kernel_rfl)
end Go.Proofs.YtpjpnppoejnafaaDoor
