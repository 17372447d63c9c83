/-
  An argument that can be read as data (the form's own reading) is of a kind 'Kd'; and what is known of it besides ('Wf').
-/
import Derived.Test.YtpjpnppoejnafaaGKit
import Derived.ChangeArms
import Derived.ChangeShapes
import Derived.DataReads
namespace Go.Proofs.Ytpjpnppoejnafaa.G
open Go.RowKit Go.Proofs.YtpjpnppoejnafaaW.PrintWords Go.Proofs.YtpjpnppoejnafaaW.PrintLast Go.Proofs.YtpjpnppoejnafaaW.PrintMore
set_option linter.unusedVariables false
section
variable {H : Type} {enc : TypeId × Value → H} {P : Program} {w : World} {base : Nat} {spare : Nat → Bool} {held : Bool}
def KOpens {α : Type} (enc : TypeId × Value → H) (P : Program) (w : World) (base : Nat) (spare : Nat → Bool) (held : Bool) (n : Nat) (t : TypeId) (k : Kd α) (Wf : α → Prop) : Prop :=
  ∀ cs x, DataW.trod enc P w base spare held n t cs = some x → ∃ a, Wf a ∧ k.K w a cs
def wfInt (i : Int) : Prop := -9223372036854775808 ≤ i ∧ i ≤ 9223372036854775807
def wfStr (s : ByteArray) : Prop := s.size ≤ 9223372036854775807
def wfAll {α : Type} (Wf : α → Prop) (xs : List α) : Prop := xs.length ≤ 9223372036854775806 ∧ ∀ x ∈ xs, Wf x
theorem kopens_int {n : Nat} {t : TypeId} (ht : P.underlying t = some (.int .i64)) : KOpens enc P w base spare held n t (Kd.int .i64) wfInt := by
  intro cs x h
  obtain ⟨i, rfl, _, hw⟩ := DataW.trod_int ht h
  have m1 : IntKind.i64.min = -9223372036854775808 := by decide
  have m2 : IntKind.i64.max = 9223372036854775807 := by decide
  simp only [Lit.wf, Bool.and_eq_true, decide_eq_true_eq, m1, m2] at hw
  exact ⟨i, hw, rfl⟩
theorem kopens_u8 {n : Nat} {t : TypeId} (ht : P.underlying t = some (.int .u8)) : KOpens enc P w base spare held n t (Kd.int .u8) (fun i => 0 ≤ i ∧ i ≤ 255) := by
  intro cs x h
  obtain ⟨i, rfl, _, hw⟩ := DataW.trod_int ht h
  have m1 : IntKind.u8.min = 0 := by decide
  have m2 : IntKind.u8.max = 255 := by decide
  simp only [Lit.wf, Bool.and_eq_true, decide_eq_true_eq, m1, m2] at hw
  exact ⟨i, hw, rfl⟩
theorem kopens_bool {n : Nat} {t : TypeId} (ht : P.underlying t = some .bool) : KOpens enc P w base spare held n t Kd.bool (fun _ => True) := by
  intro cs x h
  obtain ⟨i, rfl, _⟩ := DataW.trod_bool ht h
  exact ⟨i, trivial, rfl⟩
theorem kopens_str {n : Nat} {t : TypeId} (ht : P.underlying t = some .string) : KOpens enc P w base spare held n t Kd.string wfStr := by
  intro cs x h
  obtain ⟨i, rfl, _, hw⟩ := DataW.trod_string ht h
  unfold maxLen at hw
  exact ⟨i, hw, rfl⟩
theorem list_pick {α : Type} {P : Nat → α → Prop} : ∀ (n : Nat), (∀ i, i < n → ∃ a, P i a) → ∃ xs : List α, xs.length = n ∧ ∀ i (h : i < xs.length), P i xs[i]
  | 0, _ => ⟨[], rfl, by simp⟩
  | n + 1, h => by
    obtain ⟨xs, hl, hx⟩ := list_pick (P := P) n (fun i hi => h i (by omega))
    obtain ⟨a, ha⟩ := h n (by omega)
    refine ⟨xs ++ [a], by simp [hl], fun i hi => ?_⟩
    by_cases hin : i < xs.length
    · rw [List.getElem_append_left hin]; exact hx i hin
    · have : i = n := by simp at hi; omega
      subst this
      rw [List.getElem_append_right (by omega)]
      simpa using ha
theorem kopens_slice {α : Type} {n : Nat} {t e : TypeId} {k : Kd α} {Wf : α → Prop} (ht : P.underlying t = some (.slice e)) (hsz : P.cellsOf e = k.sz) (hpos : 0 < k.sz) (hby : ∀ xs : List α, True → True)
    (ho : ∀ m, m < n → KOpens enc P w base spare held m e k Wf) : KOpens enc P w base spare held n t (Kd.slice e k) (fun xs => xs.length ≤ 9223372036854775807 ∧ ∀ x ∈ xs, Wf x) := by
  intro cs x h
  rcases DataW.trod_slice ht h with ⟨rfl, _⟩ | ⟨a, len, cap, elems, rest, m, hn, rfl, _, hb, hl, hm, hlen, hel, _, _⟩
  · exact ⟨[], ⟨by simp, by simp⟩, none, 0, rfl, by simp, rfl, by simp, fun h => absurd h (by simp)⟩
  · unfold maxLen at hm
    have get : ∀ i, i < len → ∃ p : α, Wf p ∧ ∃ cs', w.cells? base (a.add (i * k.sz)) k.sz = some cs' ∧ k.K w p cs' := by
      intro i hi
      have h1 := hel i hi
      rw [hsz, List.getElem?_eq_getElem (by omega), Option.bind_eq_some_iff] at h1
      obtain ⟨cs', h1, h2⟩ := h1
      obtain ⟨p, hp, hK⟩ := ho m (by omega) _ _ h2
      exact ⟨p, hp, cs', h1, hK⟩
    obtain ⟨xs, hxl, hxs⟩ := list_pick len get
    refine ⟨xs, ⟨by omega, fun p hp => ?_⟩, some a, cap, by rw [hxl], by omega, rfl, by omega, fun _ => ⟨a, rfl, fun j p hj => ?_⟩⟩
    · obtain ⟨i, hi, rfl⟩ := List.getElem_of_mem hp
      exact (hxs i hi).1
    · obtain ⟨hjl, rfl⟩ := List.getElem?_eq_some_iff.1 hj
      obtain ⟨_, cs', hc, hK⟩ := hxs j hjl
      obtain ⟨_, hl', hat'⟩ := World.cells?_some hc
      refine ⟨cs', k.K_len hK, hK, fun i u hu => ?_⟩
      have hi := (List.getElem?_eq_some_iff.1 hu).1
      have h3 := hat' i (by rw [k.K_len hK] at hi; exact hi)
      rw [hu] at h3
      have ha : (a.add (j * k.sz)).add i = a.add (j * k.sz + i) := by
        unfold Addr.add
        by_cases h1 : j * k.sz = 0 <;> by_cases h2 : i = 0 <;> simp [h1, h2, Nat.add_assoc]
      rw [ha] at h3
      exact h3
/-- Fields, one behind the other from offset o on. -/
def KFields {α : Type} (enc : TypeId × Value → H) (P : Program) (w : World) (base : Nat) (spare : Nat → Bool) (held : Bool) (n : Nat) (fs : List (TypeId × Nat)) (o : Nat) (k : Kd α) (Wf : α → Prop) : Prop :=
  ∀ cs : List Value, cs.length = o + k.sz → (∀ f, f ∈ fs → ∃ x, DataW.trod enc P w base spare held n f.1 ((cs.drop f.2).take (P.cellsOf f.1)) = some x) → ∃ a, Wf a ∧ k.K w a (cs.drop o)
theorem kfields_one {α : Type} {n : Nat} {t : TypeId} {o : Nat} {k : Kd α} {Wf : α → Prop} (hsz : P.cellsOf t = k.sz) (h : KOpens enc P w base spare held n t k Wf) : KFields enc P w base spare held n [(t, o)] o k Wf := by
  intro cs hl hx
  obtain ⟨x, hx⟩ := hx (t, o) (by simp)
  simp only [hsz] at hx
  rw [List.take_of_length_le (by rw [List.length_drop]; omega)] at hx
  exact h _ _ hx
theorem kfields_cons {α β : Type} {n : Nat} {t : TypeId} {o o' : Nat} {fs : List (TypeId × Nat)} {k : Kd α} {k' : Kd β} {Wf : α → Prop} {Wf' : β → Prop} (hsz : P.cellsOf t = k.sz) (ho : o' = o + k.sz) (h : KOpens enc P w base spare held n t k Wf) (hs : KFields enc P w base spare held n fs o' k' Wf') :
    KFields enc P w base spare held n ((t, o) :: fs) o (Kd.pair k k') (fun p => Wf p.1 ∧ Wf' p.2) := by
  intro cs hl hx
  subst ho
  obtain ⟨x, h0⟩ := hx (t, o) (by simp)
  simp only [hsz] at h0
  obtain ⟨a, ha, hK⟩ := h _ _ h0
  have hl' : cs.length = o + (k.sz + k'.sz) := hl
  obtain ⟨b, hb, hK'⟩ := hs cs (by omega) (fun f hf => hx f (by simp [hf]))
  refine ⟨(a, b), ⟨ha, hb⟩, _, _, ?_, hK, hK'⟩
  rw [← List.drop_drop, List.take_append_drop]
theorem kopens_struct {α β : Type} {n : Nat} {t : TypeId} {fs : Array Field} {k : Kd α} {f : β → α} {g : α → β} {Wf : α → Prop} (hfg : ∀ a, f (g a) = a) (ht : P.underlying t = some (.struct fs)) (hc : P.cellsOf t = k.sz)
    (hs : ∀ m, m + 1 = n → KFields enc P w base spare held m (fs.toList.map fun f => (f.type, f.offset)) 0 k Wf) : KOpens enc P w base spare held n t (Kd.iso k f) (fun b => Wf (f b)) := by
  intro cs x h
  obtain ⟨xs, m, hn, _, hcl, hxl, hg⟩ := DataW.trod_struct ht h
  obtain ⟨a, ha, hK⟩ := hs m hn.symm cs (by rw [hcl, hc]; omega) (fun q hq => by
    obtain ⟨fl, hfl, rfl⟩ := List.mem_map.1 hq
    obtain ⟨i, hi, rfl⟩ := List.getElem_of_mem hfl
    have hi' : i < fs.size := by simpa using hi
    have := hg i fs[i] (by simp [hi'])
    refine ⟨xs[i]'(by rw [hxl]; exact hi'), ?_⟩
    rw [Array.getElem_toList, this]
    exact List.getElem?_eq_getElem (by rw [hxl]; exact hi'))
  rw [List.drop_zero] at hK
  refine ⟨g a, ?_, ?_⟩
  · show Wf (f (g a)); rw [hfg]; exact ha
  · show k.K w (f (g a)) cs; rw [hfg]; exact hK
end
end Go.Proofs.Ytpjpnppoejnafaa.G
