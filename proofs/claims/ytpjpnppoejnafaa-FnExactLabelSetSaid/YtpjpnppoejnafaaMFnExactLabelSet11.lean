import Derived.Test.YtpjpnppoejnafaaMFnExactLabelSet7
import Derived.Test.YtpjpnppoejnafaaMFnExactLabelSet9
import Derived.Test.YtpjpnppoejnafaaMFnExactLabelSet10
import Derived.Test.YtpjpnppoejnafaaMFnExactLabelSet1
import Derived.ChangeArms
import Derived.ChangeShapes
import Derived.DataReads
import Derived.Test.YtpjpnppoejnafaaProg
import Derived.WideShapes
import Derived.KernelRfl
import Derived.Test.YtpjpnppoejnafaaRows
import Derived.WalkKit
import Derived.ProofKit
import Derived.OpenShut
import Derived.ShutString
import Derived.ChangeOld
import Derived.Carry
import Derived.Below
import Derived.Handed
/- PLabSetLaw -/
/-
  The law of LabelSet, as a statement over lists: it is answered true.
-/
namespace Go.Proofs.Ytpjpnppoejnafaa.G
open Go.RowKit Go.Proofs.YtpjpnppoejnafaaW.PrintWords Go.Proofs.YtpjpnppoejnafaaW.PrintLast Go.Proofs.YtpjpnppoejnafaaW.PrintMore
set_option linter.unusedVariables false
set_option linter.unusedSimpArgs false
theorem insB_true (key v : ByteArray) : ∀ l : List ILab, insB key v true l = l.filter (fun x => !(x.f0.toList == key.toList))
  | [] => by simp [insB]
  | y :: ys => by
    rw [insB, insB_true key v ys]
    by_cases c : y.f0.toList = key.toList <;> simp [c]
theorem insB_false (key v : ByteArray) : ∀ l : List ILab, insB key v false l = l.takeWhile (fun x => Op.bytesLess x.f0.toList key.toList) ++ ⟨key, v⟩ :: (l.dropWhile (fun x => Op.bytesLess x.f0.toList key.toList)).filter (fun x => !(x.f0.toList == key.toList))
  | [] => by simp [insB]
  | y :: ys => by
    rw [insB]
    by_cases c : Op.bytesLess y.f0.toList key.toList = true
    · have hne : ¬ y.f0.toList = key.toList := by intro e; rw [e, bl_irrefl] at c; cases c
      simp only [c, Bool.not_true, Bool.and_false, Bool.false_eq_true, if_false, if_neg hne, List.takeWhile_cons, List.dropWhile_cons, if_true, insB_false key v ys, List.cons_append]
    · have c' := Bool.eq_false_iff.2 c
      simp only [c', Bool.not_false, Bool.and_self, if_true, insB_true, List.takeWhile_cons, List.dropWhile_cons, Bool.false_eq_true, if_false, List.nil_append]
      by_cases d : y.f0.toList = key.toList <;> simp [d]
theorem labs_up {xs : List ILab} (h : labsB xs = true) : xs.Pairwise (fun x y => Op.bytesLess x.f0.toList y.f0.toList = true) := by
  refine pair_of_next (key := fun x : ILab => x.f0.toList) (fun i hi => ?_)
  unfold labsB at h
  rw [Bool.and_eq_true, allN_true] at h
  have := h.1 (i + 1) hi
  simp only [labOkAt, Bool.and_eq_true, Bool.or_eq_true, beq_iff_eq] at this
  have h2 := this.2.2.resolve_left (by omega)
  rw [rdIL hi, Nat.add_sub_cancel, rdIL (by omega : i < xs.length)] at h2
  exact h2
theorem labGet_has {xs : List ILab} {key : ByteArray} : (labGet xs key).2 = true ↔ ∃ x ∈ xs, x.f0.toList = key.toList := by
  unfold labGet
  cases h : (List.range xs.length).find? (fun i : Nat => decide ((rd_T56 xs i).f0.toList = key.toList)) with
  | none =>
    simp only [Option.elim_none, Bool.false_eq_true, false_iff, not_exists, not_and]
    intro x hx
    obtain ⟨i, hi, rfl⟩ := List.getElem_of_mem hx
    have := List.find?_eq_none.1 h i (by simpa using hi)
    rw [rdIL hi] at this
    simpa using this
  | some i =>
    simp only [Option.elim_some, true_iff]
    have h1 := List.find?_some h
    have h2 : i < xs.length := by simpa using List.mem_of_find?_eq_some h
    rw [rdIL h2] at h1
    exact ⟨_, List.getElem_mem h2, by simpa using h1⟩
theorem filter_ne_len {xs : List ILab} {key : ByteArray} (hx : ∃ x ∈ xs, x.f0.toList = key.toList) : (dropLab xs key).length < xs.length := by
  obtain ⟨x, hx, he⟩ := hx
  have h1 := List.length_filter_le (fun x : ILab => !(x.f0.toList == key.toList)) xs
  refine Nat.lt_of_le_of_ne h1 (fun e => ?_)
  have := List.length_filter_eq_length_iff.1 e x hx
  simp [he] at this
theorem drop_none {xs : List ILab} {key : ByteArray} (hx : ¬ ∃ x ∈ xs, x.f0.toList = key.toList) : dropLab xs key = xs := by
  unfold dropLab
  rw [List.filter_eq_self]
  intro x hx2
  simp only [Bool.not_eq_true', beq_eq_false_iff_ne]
  exact fun e => hx ⟨x, hx2, e⟩
theorem implLabelSet_ev (xs : List ILab) (key v : ByteArray) (hw : wfILabs xs) (hl : xs.length ≤ 1048576) (hk : key.size ≤ 9223372036854775807) (hv : v.size ≤ 9223372036854775807) : Ev (fun k => impl_LabelSet.f k xs key v) (labSet xs key v) := by
  unfold impl_LabelSet.f
  have hc : (fun x : ILab => impl_LabelSet_1.f x.f0 x.f1 key) = fun x => some (Lib.compareBytes x.f0.data.toList key.data.toList) := rfl
  obtain ⟨q, hq⟩ := bsO_tot (fun x : ILab => Lib.compareBytes x.f0.data.toList key.data.toList) (dropLab xs key)
  refine Ev.bind (ev_now (implLabelDrop_f xs key hl)) (Ev.bind (a := q) (by rw [hc, hq]; exact Ev.now _) ?_)
  refine Ev.bind (implLabelsOk_ev xs hw) ?_
  have bad : setOk xs key v = false → labSet xs key v = (xs, false) := fun h => by unfold labSet; rw [h, if_neg Bool.false_ne_true]
  cases h1 : labsB xs with
  | false => exact ev_if_neg Bool.false_ne_true (ev_some (bad (by simp [setOk, h1])).symm)
  | true =>
    refine ev_if_pos rfl (Ev.bind (implNameOk_ev key hk) ?_)
    cases h2 : nameB key with
    | false => exact ev_if_neg Bool.false_ne_true (ev_some (bad (by simp [setOk, h2])).symm)
    | true =>
      refine ev_if_pos rfl (Ev.bind (implNameOk_ev v hv) ?_)
      cases h3 : nameB v with
      | false => exact ev_if_neg Bool.false_ne_true (ev_some (bad (by simp [setOk, h3])).symm)
      | true =>
        refine ev_if_pos rfl ?_
        have h8 : xs.length ≤ 8 := by unfold labsB at h1; rw [Bool.and_eq_true] at h1; have := of_decide_eq_true h1.2; omega
        have hup := labs_up h1
        by_cases he : ((dropLab xs key).length : Int) = 8
        · refine ev_if_pos he (ev_some (bad ?_).symm)
          have hno : ¬ ∃ x ∈ xs, x.f0.toList = key.toList := fun hx => by have := filter_ne_len hx; omega
          have hg : (labGet xs key).2 = false := by rw [← Bool.not_eq_true, labGet_has]; exact hno
          rw [drop_none hno] at he
          simp [setOk, hg, he]
        · refine ev_if_neg he (ev_some ?_)
          have hok : setOk xs key v = true := by
            simp only [setOk, h1, h2, h3, Bool.true_and, Bool.or_eq_true, bne_iff_ne]
            by_cases hx : ∃ x ∈ xs, x.f0.toList = key.toList
            · exact .inl (labGet_has.2 hx)
            · rw [drop_none hx] at he; exact .inr he
          unfold labSet
          rw [hok, if_pos rfl, insB_false]
          -- the parts
          have hN := up_parts (key := fun x : ILab => x.f0.toList) (k := key.toList) hup
          have hdec : xs = xs.takeWhile (fun x => Op.bytesLess x.f0.toList key.toList) ++ xs.dropWhile (fun x => Op.bytesLess x.f0.toList key.toList) := List.takeWhile_append_dropWhile.symm
          have hPm : ∀ x ∈ xs.takeWhile (fun x => Op.bytesLess x.f0.toList key.toList), Op.bytesLess x.f0.toList key.toList = true := fun x hx => by have := List.all_takeWhile (p := fun x : ILab => Op.bytesLess x.f0.toList key.toList) (l := xs); rw [List.all_eq_true] at this; exact this x hx
          generalize hP : xs.takeWhile (fun x => Op.bytesLess x.f0.toList key.toList) = P at hPm hdec
          generalize hM : xs.dropWhile (fun x => Op.bytesLess x.f0.toList key.toList) = M at hN hdec
          have hout : dropLab xs key = P ++ M.filter (fun x => !(x.f0.toList == key.toList)) := by
            unfold dropLab
            rw [hdec, List.filter_append]
            congr 1
            rw [List.filter_eq_self]
            intro x hx
            simp only [Bool.not_eq_true', beq_eq_false_iff_ne]
            intro e
            have := hPm x hx
            rw [e, bl_irrefl] at this
            cases this
          have hb := bsO_part (c := fun x : ILab => Lib.compareBytes x.f0.data.toList key.data.toList) (P := P) (M := M.filter (fun x => !(x.f0.toList == key.toList)))
            (fun x hx => by rw [cmp_neg, ← ByteArray.toList_eq, ← ByteArray.toList_eq]; exact hPm x hx)
            (fun x hx => by rw [cmp_neg, ← ByteArray.toList_eq, ← ByteArray.toList_eq]; exact hN x (List.mem_filter.1 hx).1)
          obtain ⟨fd, hb, _⟩ := hb
          rw [hout] at hq ⊢
          rw [hb] at hq
          cases hq
          rw [List.take_left, List.drop_left]
theorem FnExactLabelSet_pure (l0 : List LLab) (a1 a2 : ByteArray) (hw : l0.length ≤ 9223372036854775807 ∧ ∀ x ∈ l0, wfLab x) (h1 : a1.size ≤ 9223372036854775807) (h2 : a2.size ≤ 9223372036854775807) : ∃ k, laws_FnExactLabelSet.f k l0 a1 a2 = some true := by
  refine Ev.rounds ?_
  unfold laws_FnExactLabelSet.f
  by_cases c : (a1.size : Int) > 1048576
  · exact ev_if_pos c (Ev.now _)
  refine ev_if_neg c ?_
  by_cases c' : (a2.size : Int) > 1048576
  · exact ev_if_pos c' (Ev.now _)
  refine ev_if_neg c' (Ev.bind (szLabelS_ev l0 1048576 hw.2 hw.1 (by omega) (by omega)) ?_)
  by_cases c2 : szR 1048576 (totLabs l0) < 0
  · exact ev_if_pos c2 (Ev.now _)
  have hlen : l0.length ≤ 1048576 := by
    have := szR_nonneg (by omega : 0 ≤ szR 1048576 (totLabs l0))
    unfold totLabs at this; omega
  have hm : (l0.map cLab).length ≤ 1048576 := by simpa using hlen
  have hwi : wfILabs (l0.map cLab) := wf_cLab hw
  have hd := labSet_len (l0.map cLab) a1 a2
  have spec := specLabelSet_ev (l0.map cLab) a1 a2 hwi hm (by omega) (by omega)
  have impl := implLabelSet_ev (l0.map cLab) a1 a2 hwi hm (by omega) (by omega)
  refine ev_if_neg c2 (Ev.bind (toLabelS_ev l0 hlen) (Ev.bind spec (Ev.bind (toLabelS_ev l0 hlen) (Ev.bind impl (Ev.bind (eqLabelS_ev _ (by omega)) (ev_if_pos rfl ?_))))))
  refine Ev.step (fun k => by rw [laws_FnExactLabelSet.j0]) (ev_if_neg (by simp) ?_)
  refine Ev.bind (toLabelS_ev l0 hlen) (Ev.bind (eqLabelS_ev _ (by omega)) (ev_if_pos rfl (Ev.bind (markLabelS_ev 1 _ (by omega) (by omega) (by omega)) (ev_if_neg (by show ¬ ((1 : Int) + 2 * ((l0.map cLab).length : Int) < 0); omega) (Ev.bind (eqLabelS_ev _ (by omega)) (ev_if_pos rfl ?_))))))
  refine Ev.step (fun k => by rw [laws_FnExactLabelSet.j1]) (ev_if_neg (by simp) ?_)
  refine Ev.bind (markLabelS_ev 1 _ (by omega) (by omega) (by omega)) (Ev.bind (heldLabelS_ev 1 _ (by omega) (by omega) (by omega)) (ev_if_neg (by omega) (ev_if_pos rfl ?_)))
  refine Ev.bind (toLabelS_ev l0 hlen) (Ev.bind impl (Ev.bind (eqLabelS_ev _ (by omega)) (ev_if_pos rfl ?_)))
  refine Ev.step (fun k => by rw [laws_FnExactLabelSet.j2]) (ev_if_neg (by simp) ?_)
  exact Ev.bind (heldLabelS_ev 1 _ (by omega) (by omega) (by omega)) (ev_if_neg (by omega) (ev_if_pos rfl (Ev.now _)))
end Go.Proofs.Ytpjpnppoejnafaa.G

/- GKOpen -/
/-
  An argument that can be read as data (the form's own reading) is of a kind 'Kd'; and what is known of it besides ('Wf').
-/
namespace Go.Proofs.Ytpjpnppoejnafaa.G
open Go.RowKit Go.Proofs.YtpjpnppoejnafaaW.PrintWords Go.Proofs.YtpjpnppoejnafaaW.PrintLast Go.Proofs.YtpjpnppoejnafaaW.PrintMore
set_option linter.unusedVariables false
section
variable {H : Type} {enc : TypeId × Value → H} {P : Program} {w : World} {base : Nat} {spare : Nat → Bool} {held : Bool}
def KOpens {α : Type} (enc : TypeId × Value → H) (P : Program) (w : World) (base : Nat) (spare : Nat → Bool) (held : Bool) (n : Nat) (t : TypeId) (k : Kd α) (Wf : α → Prop) : Prop :=
  ∀ cs x, DataW.trod enc P w base spare held n t cs = some x → ∃ a, Wf a ∧ k.K w a cs
def wfInt (i : Int) : Prop := -9223372036854775808 ≤ i ∧ i ≤ 9223372036854775807
def wfStr (s : ByteArray) : Prop := s.size ≤ 9223372036854775807
def wfAll {α : Type} (Wf : α → Prop) (xs : List α) : Prop := xs.length ≤ 9223372036854775806 ∧ ∀ x ∈ xs, Wf x
theorem kopens_int {n : Nat} {t : TypeId} (ht : P.underlying t = some (.int .i64)) : KOpens enc P w base spare held n t (Kd.int .i64) wfInt := by
  intro cs x h
  obtain ⟨i, rfl, _, hw⟩ := DataW.trod_int ht h
  have m1 : IntKind.i64.min = -9223372036854775808 := by decide
  have m2 : IntKind.i64.max = 9223372036854775807 := by decide
  simp only [Lit.wf, Bool.and_eq_true, decide_eq_true_eq, m1, m2] at hw
  exact ⟨i, hw, rfl⟩
theorem kopens_u8 {n : Nat} {t : TypeId} (ht : P.underlying t = some (.int .u8)) : KOpens enc P w base spare held n t (Kd.int .u8) (fun i => 0 ≤ i ∧ i ≤ 255) := by
  intro cs x h
  obtain ⟨i, rfl, _, hw⟩ := DataW.trod_int ht h
  have m1 : IntKind.u8.min = 0 := by decide
  have m2 : IntKind.u8.max = 255 := by decide
  simp only [Lit.wf, Bool.and_eq_true, decide_eq_true_eq, m1, m2] at hw
  exact ⟨i, hw, rfl⟩
theorem kopens_bool {n : Nat} {t : TypeId} (ht : P.underlying t = some .bool) : KOpens enc P w base spare held n t Kd.bool (fun _ => True) := by
  intro cs x h
  obtain ⟨i, rfl, _⟩ := DataW.trod_bool ht h
  exact ⟨i, trivial, rfl⟩
theorem kopens_str {n : Nat} {t : TypeId} (ht : P.underlying t = some .string) : KOpens enc P w base spare held n t Kd.string wfStr := by
  intro cs x h
  obtain ⟨i, rfl, _, hw⟩ := DataW.trod_string ht h
  unfold maxLen at hw
  exact ⟨i, hw, rfl⟩
theorem list_pick {α : Type} {P : Nat → α → Prop} : ∀ (n : Nat), (∀ i, i < n → ∃ a, P i a) → ∃ xs : List α, xs.length = n ∧ ∀ i (h : i < xs.length), P i xs[i]
  | 0, _ => ⟨[], rfl, by simp⟩
  | n + 1, h => by
    obtain ⟨xs, hl, hx⟩ := list_pick (P := P) n (fun i hi => h i (by omega))
    obtain ⟨a, ha⟩ := h n (by omega)
    refine ⟨xs ++ [a], by simp [hl], fun i hi => ?_⟩
    by_cases hin : i < xs.length
    · rw [List.getElem_append_left hin]; exact hx i hin
    · have : i = n := by simp at hi; omega
      subst this
      rw [List.getElem_append_right (by omega)]
      simpa using ha
theorem kopens_slice {α : Type} {n : Nat} {t e : TypeId} {k : Kd α} {Wf : α → Prop} (ht : P.underlying t = some (.slice e)) (hsz : P.cellsOf e = k.sz) (hpos : 0 < k.sz) (hby : ∀ xs : List α, True → True)
    (ho : ∀ m, m < n → KOpens enc P w base spare held m e k Wf) : KOpens enc P w base spare held n t (Kd.slice e k) (fun xs => xs.length ≤ 9223372036854775807 ∧ ∀ x ∈ xs, Wf x) := by
  intro cs x h
  rcases DataW.trod_slice ht h with ⟨rfl, _⟩ | ⟨a, len, cap, elems, rest, m, hn, rfl, _, hb, hl, hm, hlen, hel, _, _⟩
  · exact ⟨[], ⟨by simp, by simp⟩, none, 0, rfl, by simp, rfl, by simp, fun h => absurd h (by simp)⟩
  · unfold maxLen at hm
    have get : ∀ i, i < len → ∃ p : α, Wf p ∧ ∃ cs', w.cells? base (a.add (i * k.sz)) k.sz = some cs' ∧ k.K w p cs' := by
      intro i hi
      have h1 := hel i hi
      rw [hsz, List.getElem?_eq_getElem (by omega), Option.bind_eq_some_iff] at h1
      obtain ⟨cs', h1, h2⟩ := h1
      obtain ⟨p, hp, hK⟩ := ho m (by omega) _ _ h2
      exact ⟨p, hp, cs', h1, hK⟩
    obtain ⟨xs, hxl, hxs⟩ := list_pick len get
    refine ⟨xs, ⟨by omega, fun p hp => ?_⟩, some a, cap, by rw [hxl], by omega, rfl, by omega, fun _ => ⟨a, rfl, fun j p hj => ?_⟩⟩
    · obtain ⟨i, hi, rfl⟩ := List.getElem_of_mem hp
      exact (hxs i hi).1
    · obtain ⟨hjl, rfl⟩ := List.getElem?_eq_some_iff.1 hj
      obtain ⟨_, cs', hc, hK⟩ := hxs j hjl
      obtain ⟨_, hl', hat'⟩ := World.cells?_some hc
      refine ⟨cs', k.K_len hK, hK, fun i u hu => ?_⟩
      have hi := (List.getElem?_eq_some_iff.1 hu).1
      have h3 := hat' i (by rw [k.K_len hK] at hi; exact hi)
      rw [hu] at h3
      have ha : (a.add (j * k.sz)).add i = a.add (j * k.sz + i) := by
        unfold Addr.add
        by_cases h1 : j * k.sz = 0 <;> by_cases h2 : i = 0 <;> simp [h1, h2, Nat.add_assoc]
      rw [ha] at h3
      exact h3
/-- Fields, one behind the other from offset o on. -/
def KFields {α : Type} (enc : TypeId × Value → H) (P : Program) (w : World) (base : Nat) (spare : Nat → Bool) (held : Bool) (n : Nat) (fs : List (TypeId × Nat)) (o : Nat) (k : Kd α) (Wf : α → Prop) : Prop :=
  ∀ cs : List Value, cs.length = o + k.sz → (∀ f, f ∈ fs → ∃ x, DataW.trod enc P w base spare held n f.1 ((cs.drop f.2).take (P.cellsOf f.1)) = some x) → ∃ a, Wf a ∧ k.K w a (cs.drop o)
theorem kfields_one {α : Type} {n : Nat} {t : TypeId} {o : Nat} {k : Kd α} {Wf : α → Prop} (hsz : P.cellsOf t = k.sz) (h : KOpens enc P w base spare held n t k Wf) : KFields enc P w base spare held n [(t, o)] o k Wf := by
  intro cs hl hx
  obtain ⟨x, hx⟩ := hx (t, o) (by simp)
  simp only [hsz] at hx
  rw [List.take_of_length_le (by rw [List.length_drop]; omega)] at hx
  exact h _ _ hx
theorem kfields_cons {α β : Type} {n : Nat} {t : TypeId} {o o' : Nat} {fs : List (TypeId × Nat)} {k : Kd α} {k' : Kd β} {Wf : α → Prop} {Wf' : β → Prop} (hsz : P.cellsOf t = k.sz) (ho : o' = o + k.sz) (h : KOpens enc P w base spare held n t k Wf) (hs : KFields enc P w base spare held n fs o' k' Wf') :
    KFields enc P w base spare held n ((t, o) :: fs) o (Kd.pair k k') (fun p => Wf p.1 ∧ Wf' p.2) := by
  intro cs hl hx
  subst ho
  obtain ⟨x, h0⟩ := hx (t, o) (by simp)
  simp only [hsz] at h0
  obtain ⟨a, ha, hK⟩ := h _ _ h0
  have hl' : cs.length = o + (k.sz + k'.sz) := hl
  obtain ⟨b, hb, hK'⟩ := hs cs (by omega) (fun f hf => hx f (by simp [hf]))
  refine ⟨(a, b), ⟨ha, hb⟩, _, _, ?_, hK, hK'⟩
  rw [← List.drop_drop, List.take_append_drop]
theorem kopens_struct {α β : Type} {n : Nat} {t : TypeId} {fs : Array Field} {k : Kd α} {f : β → α} {g : α → β} {Wf : α → Prop} (hfg : ∀ a, f (g a) = a) (ht : P.underlying t = some (.struct fs)) (hc : P.cellsOf t = k.sz)
    (hs : ∀ m, m + 1 = n → KFields enc P w base spare held m (fs.toList.map fun f => (f.type, f.offset)) 0 k Wf) : KOpens enc P w base spare held n t (Kd.iso k f) (fun b => Wf (f b)) := by
  intro cs x h
  obtain ⟨xs, m, hn, _, hcl, hxl, hg⟩ := DataW.trod_struct ht h
  obtain ⟨a, ha, hK⟩ := hs m hn.symm cs (by rw [hcl, hc]; omega) (fun q hq => by
    obtain ⟨fl, hfl, rfl⟩ := List.mem_map.1 hq
    obtain ⟨i, hi, rfl⟩ := List.getElem_of_mem hfl
    have hi' : i < fs.size := by simpa using hi
    have := hg i fs[i] (by simp [hi'])
    refine ⟨xs[i]'(by rw [hxl]; exact hi'), ?_⟩
    rw [Array.getElem_toList, this]
    exact List.getElem?_eq_getElem (by rw [hxl]; exact hi'))
  rw [List.drop_zero] at hK
  refine ⟨g a, ?_, ?_⟩
  · show Wf (f (g a)); rw [hfg]; exact ha
  · show k.K w (f (g a)) cs; rw [hfg]; exact hK
end
end Go.Proofs.Ytpjpnppoejnafaa.G

/- GKArgs -/
/-
  The arguments of the laws, opened: at this dump's type numbers.
-/
namespace Go.Proofs.Ytpjpnppoejnafaa.G
open Go.RowKit Go.Proofs.YtpjpnppoejnafaaW.PrintWords Go.Proofs.YtpjpnppoejnafaaW.PrintLast Go.Proofs.YtpjpnppoejnafaaW.PrintMore
set_option linter.unusedVariables false
theorem int_wf {n : Int} (h : (Lit.int .i64 n).wf = true) : -9223372036854775808 ≤ n ∧ n ≤ 9223372036854775807 := by
  have m1 : IntKind.i64.min = -9223372036854775808 := by decide
  have m2 : IntKind.i64.max = 9223372036854775807 := by decide
  simpa only [Lit.wf, Bool.and_eq_true, decide_eq_true_eq, m1, m2] using h
section
variable {H : Type} {enc : TypeId × Value → H} {w : World} {base : Nat} {spare : Nat → Bool} {held : Bool} {v : Value} {d : DataW H} {p : List MemPlace} {r : Reach} {b0 : Nat}
set_option maxRecDepth 20000 in
/-- A slice of such elements. -/
theorem kopen_of {α : Type} {t e : TypeId} {k : Kd α} {Wf : α → Prop} (ht : Try.prog.underlying t = some (.slice e)) (hsz : Try.prog.cellsOf e = k.sz) (hpos : 0 < k.sz) (ho : ∀ m, KOpens enc Try.prog w base spare held m e k Wf)
    (hv : Value.okWide Try.prog w r b0 t v) (h : DataW.Trod enc Try.prog w base spare held t v d p) :
    ∃ (xs : List α) (A : Option Addr) (c : Nat), v = .slice A xs.length c ∧ (xs.length ≤ 9223372036854775807 ∧ ∀ x ∈ xs, Wf x) ∧ xs.length ≤ c ∧ Kd.C k w A xs.length xs := by
  obtain ⟨A, n, c, rfl⟩ := Go.WideShapes.okWide_slice ht hv
  obtain ⟨fuel, h⟩ := h
  obtain ⟨xs, hw, A', c', he, hl, hC⟩ := kopens_slice ht hsz hpos (fun _ _ => trivial) (fun m _ => ho m) _ _ h
  have he' : [Value.slice A n c] = [Value.slice A' xs.length c'] := he
  simp only [List.cons.injEq, and_true] at he'
  exact ⟨xs, A', c', he', hw, hl, hC⟩
set_option maxRecDepth 20000 in
theorem kopens_lab (m : Nat) : KOpens enc Try.prog w base spare held m 55 k55 (fun x => wfStr x.f0 ∧ wfStr x.f1) :=
  kopens_struct (g := fun (p : ByteArray × ByteArray) => (⟨p.1, p.2⟩ : S55)) (Wf := fun (p : ByteArray × ByteArray) => wfStr p.1 ∧ wfStr p.2) (fun _ => rfl) Try.underlying55 (by kernel_rfl) (fun m _ => kfields_cons (o' := 1) (by kernel_rfl) rfl (kopens_str Try.underlying9) (kfields_one (by kernel_rfl) (kopens_str Try.underlying9)))
set_option maxRecDepth 20000 in
theorem kopen_labels (hv : Value.okWide Try.prog w r b0 22 v) (h : DataW.Trod enc Try.prog w base spare held 22 v d p) :
    ∃ (xs : List S55) (A : Option Addr) (c : Nat), v = .slice A xs.length c ∧ (xs.length ≤ 9223372036854775807 ∧ ∀ x ∈ xs, wfStr x.f0 ∧ wfStr x.f1) ∧ xs.length ≤ c ∧ Kd.C k55 w A xs.length xs :=
  kopen_of Try.underlying22 (by kernel_rfl) (by decide) kopens_lab hv h
set_option maxRecDepth 20000 in
theorem kopens_term (m : Nat) : KOpens enc Try.prog w base spare held m 73 k73 (fun x => wfInt x.f0 ∧ wfStr x.f1 ∧ (x.f2.length ≤ 9223372036854775807 ∧ ∀ y ∈ x.f2, wfStr y)) :=
  kopens_struct (g := fun (p : Int × ByteArray × List ByteArray) => (⟨p.1, p.2.1, p.2.2⟩ : S73)) (Wf := fun (p : Int × ByteArray × List ByteArray) => wfInt p.1 ∧ wfStr p.2.1 ∧ (p.2.2.length ≤ 9223372036854775807 ∧ ∀ y ∈ p.2.2, wfStr y)) (fun _ => rfl) Try.underlying73 (by kernel_rfl)
    (fun m _ => kfields_cons (o' := 1) (by kernel_rfl) rfl (kopens_int Try.underlying3) (kfields_cons (o' := 2) (by kernel_rfl) rfl (kopens_str Try.underlying9) (kfields_one (by kernel_rfl) (kopens_slice Try.underlying50 (by kernel_rfl) (by decide) (fun _ _ => trivial) (fun m _ => kopens_str Try.underlying9)))))
set_option maxRecDepth 20000 in
theorem kopen_terms (hv : Value.okWide Try.prog w r b0 35 v) (h : DataW.Trod enc Try.prog w base spare held 35 v d p) :
    ∃ (xs : List S73) (A : Option Addr) (c : Nat), v = .slice A xs.length c ∧ (xs.length ≤ 9223372036854775807 ∧ ∀ x ∈ xs, wfInt x.f0 ∧ wfStr x.f1 ∧ (x.f2.length ≤ 9223372036854775807 ∧ ∀ y ∈ x.f2, wfStr y)) ∧ xs.length ≤ c ∧ Kd.C k73 w A xs.length xs :=
  kopen_of Try.underlying35 (by kernel_rfl) (by decide) kopens_term hv h
set_option maxRecDepth 20000 in
theorem kopen_bytes (hv : Value.okWide Try.prog w r b0 45 v) (h : DataW.Trod enc Try.prog w base spare held 45 v d p) :
    ∃ (xs : List Int) (A : Option Addr) (c : Nat), v = .slice A xs.length c ∧ (xs.length ≤ 9223372036854775807 ∧ ∀ x ∈ xs, 0 ≤ x ∧ x ≤ 255) ∧ xs.length ≤ c ∧ Kd.C (Kd.int .u8) w A xs.length xs :=
  kopen_of Try.underlying45 (by kernel_rfl) (by decide) (fun m => kopens_u8 Try.underlying5) hv h
set_option maxRecDepth 20000 in
theorem kopen_strs (hv : Value.okWide Try.prog w r b0 50 v) (h : DataW.Trod enc Try.prog w base spare held 50 v d p) :
    ∃ (xs : List ByteArray) (A : Option Addr) (c : Nat), v = .slice A xs.length c ∧ (xs.length ≤ 9223372036854775807 ∧ ∀ x ∈ xs, wfStr x) ∧ xs.length ≤ c ∧ Kd.C Kd.string w A xs.length xs :=
  kopen_of Try.underlying50 (by kernel_rfl) (by decide) (fun m => kopens_str Try.underlying9) hv h
end
end Go.Proofs.Ytpjpnppoejnafaa.G

/- RowFnExactLabelSet -/
/- The law 'FnExactLabelSet' holds for every input: it returns true, and each argument reads behind the call as it read before. No condition. -/
namespace Go.Proofs.Ytpjpnppoejnafaa.fnExactLabelSet
open Go.ChangeShapes Go.WideShapes Go.ChangeAt Go.RowKit
set_option linter.unusedVariables false
theorem own : ownKnob Try.prog.godebug = none := by kernel_rfl
theorem laidOut : laidOutB Try.prog = true := by kernel_rfl
set_option maxRecDepth 100000 in
theorem lifted (os : Os) (started : os.Started) (H : Type) (enc : TypeId × Value → H) :
    ReturnsInHanded {} Try.checked os 5 .any (Rows.fnExactLabelSetSpec.pre6 enc Try.prog Try.f5 Rows.fnExactLabelSetRow.domain false) (Rows.fnExactLabelSetSpec.post enc Try.prog Try.f5 false true false false) := by
  refine returnsInHanded_of_change (C := Try.checked) own started (by kernel_rfl) Try.func5
    (ChangeSpec.witness6 (enc := enc) (C := Try.checked) false ⟨#[], #[.slice none 0 0, .string ByteArray.empty, .string ByteArray.empty], []⟩ 8 (by kernel_rfl) (by kernel_rfl) (by kernel_rfl) (by kernel_rfl)) ?_
  intro W base args ds gs before hval0 hW hcnd _
  have hval : ∀ (j : Nat) t v, Try.f5.params[j]? = some t → args[j]? = some v → Value.okWide Try.prog W .any base t v := hval0
  have hW' := hW
  obtain ⟨p, q, hA0, hV, rfl, hfz, hnd⟩ := hW
  have hA : DataW.TrodAll enc Try.prog W 0 (fun _ => true) true Try.f5.params.toList args.toList ds p := hA0
  rw [Try.params5] at hA hval
  obtain ⟨v0, vs0, d0, ds0, p0, q0, hargs0, rfl, rfl, h0, r0x⟩ := trodAll_cons hA
  obtain ⟨v1, vs1, d1, ds1, p1, q1, hargs1, rfl, rfl, h1, r1x⟩ := trodAll_cons r0x
  obtain ⟨v2, vs2, d2, ds2, p2, q2, hargs2, rfl, rfl, h2, r2x⟩ := trodAll_cons r1x
  obtain ⟨rfl, rfl, rfl⟩ := trodAll_nil r2x
  obtain rfl : args = #[v0, v1, v2] := by cases args; simp_all
  obtain ⟨rfl, rfl⟩ := trodVars_none hV
  have hlt := hW'.lt
  have hk0 := h0
  have hk1 := h1
  have hk2 := h2
  obtain ⟨x0, A0, c0, rfl, w0, l0, q0⟩ := G.kopen_labels (hval 0 22 v0 rfl rfl) h0
  obtain ⟨s1, rfl, _, _, y1⟩ := Go.ChangeMaps.open_string Try.underlying9 (hval 1 9 v1 rfl rfl) h1
  obtain ⟨s2, rfl, _, _, y2⟩ := Go.ChangeMaps.open_string Try.underlying9 (hval 2 9 v2 rfl rfl) h2
  clear hA0 hval0
  obtain ⟨k, hk⟩ := G.FnExactLabelSet_pure x0 s1 s2 w0 (by unfold maxLen at y1; exact y1) (by unfold maxLen at y2; exact y2)
  refine (G.laws_FnExactLabelSet.calls k A0 c0 x0 s1 s2 true W q0 l0   hk).mono fun e W' ⟨he, bel⟩ => ?_
  subst he
  exact ⟨_, rfl, _, _, _, [], _, [], hW', trodAll_mk1 (shut_bool Try.underlying4 _), (trodAll_cons_mk (Below.trod laidOut (by kernel_rfl) (of_decide_eq_true (by kernel_rfl)) hk0 bel (fun x hx => hlt x (by simp [hx]))) (trodAll_cons_mk (Below.trod laidOut (by kernel_rfl) (of_decide_eq_true (by kernel_rfl)) hk1 bel (fun x hx => hlt x (by simp [hx]))) (trodAll_cons_mk (Below.trod laidOut (by kernel_rfl) (of_decide_eq_true (by kernel_rfl)) hk2 bel (fun x hx => hlt x (by simp [hx]))) trodAll_mk0))), rfl, bel.frame _, fun h => by cases h⟩
theorem over : Rows.fnExactLabelSetRow.holds Try.pinned (OpenSpec.ofChange Rows.fnExactLabelSetSpec) :=
  OpenClaim.holds_of_wide 5 Try.f5 rfl rfl rfl rfl rfl rfl rfl ⟨rfl, rfl, rfl, rfl, rfl⟩ rfl rfl rfl rfl rfl (by kernel_rfl) Try.func5 (by kernel_rfl)
    (of_decide_eq_true (by kernel_rfl)) (by unfold Func.isWrapper; first | (rw [if_pos (by decide +kernel)]; kernel_rfl) | (rw [if_neg (by decide +kernel)]; exact ⟨rfl, rfl⟩))
    (fun os started H enc _ => lifted os started H enc)
theorem proved : Rows.FnExactLabelSetSaid := over
#print axioms proved
end Go.Proofs.Ytpjpnppoejnafaa.fnExactLabelSet
namespace Go.Proofs.Ytpjpnppoejnafaa
theorem fnExactLabelSet_holds : Rows.FnExactLabelSetSaid := fnExactLabelSet.proved
end Go.Proofs.Ytpjpnppoejnafaa
