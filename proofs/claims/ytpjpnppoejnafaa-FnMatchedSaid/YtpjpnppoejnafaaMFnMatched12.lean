import Derived.Test.YtpjpnppoejnafaaMFnMatched9
import Derived.Test.YtpjpnppoejnafaaMFnMatched5
import Derived.Test.YtpjpnppoejnafaaMFnMatched10
import Derived.Test.YtpjpnppoejnafaaMFnMatched11
import Derived.Test.YtpjpnppoejnafaaMFnMatched1
import Derived.Test.YtpjpnppoejnafaaShelf
import Derived.Test.YtpjpnppoejnafaaMFnMatched4
import Derived.Test.YtpjpnppoejnafaaMFnMatched6
import Derived.Test.YtpjpnppoejnafaaMFnMatched7
/- PDrawTerm -/
/-
  Drawing terms and selectors.
-/
namespace Go.Proofs.Ytpjpnppoejnafaa.G
open Go.RowKit Go.Proofs.YtpjpnppoejnafaaW.PrintWords Go.Proofs.YtpjpnppoejnafaaW.PrintLast Go.Proofs.YtpjpnppoejnafaaW.PrintMore
set_option linter.unusedVariables false
set_option linter.unusedSimpArgs false
def smT (n : Nat) (x : ITerm) : Prop := x.f1.size ≤ 21 ∧ x.f2.length ≤ n ∧ ∀ y ∈ x.f2, y.size ≤ 21
theorem smT_le {n m : Nat} (h : n ≤ m) {x : ITerm} (k : smT n x) : smT m x := ⟨k.1, by have := k.2.1; omega, k.2.2⟩
theorem wfITerms_sm {xs : List ITerm} (h : xs.length ≤ 1000) (hs : ∀ x ∈ xs, smT 1000 x) : wfITerms xs :=
  ⟨by omega, fun x hx => ⟨by have := (hs x hx).1; omega, by have := (hs x hx).2.1; omega, fun y hy => by have := (hs x hx).2.2 y hy; omega⟩⟩
theorem l2DrawTerm_l0 (cs : List Int) (p s : Int) (hc : Cur cs p) (kind : Int) (key : ByteArray) (hk : key.size ≤ 21) (ls : List ILab) (hls : ∀ x ∈ ls, smLab x) (hll : ls.length ≤ 100) : ∀ (d i : Nat) (vs : List ByteArray), i + d = ls.length → vs.length ≤ i → (∀ y ∈ vs, y.size ≤ 21) →
    Tot (fun k => spec_l2DrawTerm.l0 k ls i cs p s kind key vs) (fun r => smT 100 ⟨r.1, r.2.1, r.2.2.1⟩ ∧ Cur cs r.2.2.2.1)
  | 0, i, vs, hd, hl, hs => by
    refine Tot.step (fun k => by rw [spec_l2DrawTerm.l0]) (Tot.neg (by omega) (Tot.ite (fun _ => Tot.some ⟨⟨hk, ?_, ?_⟩, hc⟩) (fun _ => Tot.some ⟨⟨hk, ?_, hs⟩, hc⟩)))
    · simp
    · intro y hy; simp at hy; rw [hy]; decide
    · show vs.length ≤ 100; omega
  | d + 1, i, vs, hd, hl, hs => by
    have hi : i < ls.length := by omega
    refine Tot.step (fun k => by rw [spec_l2DrawTerm.l0]) (Tot.pos (by omega) (Tot.pos (by omega) (Tot.pos (by omega) ?_)))
    rw [wsucc hi (by omega), rdIL hi]
    refine l2DrawTerm_l0 cs p s hc kind key hk ls hls hll d (i + 1) _ (by omega) (by simp; omega) (fun y hy => ?_)
    rcases List.mem_append.1 hy with h | h
    · exact hs y h
    · rw [List.mem_singleton.1 h]; exact (hls _ (List.getElem_mem hi)).1
theorem l2DrawTerm_j0 (cs : List Int) (p s : Int) (hc : Cur cs p) (kind x13 : Int) (b : Bool) (key : ByteArray) (hk : key.size ≤ 21) :
    Tot (fun k => spec_l2DrawTerm.j0 k x13 b cs p s kind key) (fun r => smT 100 ⟨r.1, r.2.1, r.2.2.1⟩ ∧ Cur cs r.2.2.2.1) := by
  refine Tot.step (fun k => by rw [spec_l2DrawTerm.j0]) (Tot.ite (fun _ => Tot.bind (l1Name_tot cs p s hc) (fun a ha => Tot.some ⟨⟨hk, by simp, ?_⟩, ha.2⟩)) (fun _ => Tot.ite (fun _ => ?_) (fun _ => Tot.some ⟨⟨hk, by simp, by simp⟩, hc⟩)))
  · intro y hy; simp at hy; rw [hy]; have := ha.1; omega
  · exact Tot.bind (l1Draw_tot cs p s 5 (by omega) hc) (fun a ha => l2DrawTerm_l0 cs _ _ ha.2.2 kind key hk a.1 ha.2.1 ha.1 a.1.length 0 [] (by omega) (by simp) (by simp))
theorem l2DrawTerm_tot (cs : List Int) (p s : Int) (hc : Cur cs p) : Tot (fun k => spec_l2DrawTerm.f k cs p s) (fun r => smT 100 ⟨r.1, r.2.1, r.2.2.1⟩ ∧ Cur cs r.2.2.2.1) := by
  unfold spec_l2DrawTerm.f
  refine Tot.bind (l1Below_tot cs p s 5 hc) (fun a ha => Tot.bind (l1Name_tot cs _ _ ha.2) (fun b hb => Tot.ite (fun _ => ?_) (fun _ => ?_)))
  · exact l2DrawTerm_j0 cs _ _ hb.2 _ _ _ _ (by have := hb.1; omega)
  · exact l2DrawTerm_j0 cs _ _ hb.2 _ _ _ _ (by have := hb.1; omega)
theorem l2Draw_l0 (cs : List Int) : ∀ (d : Nat) (ys : List ITerm) (x6 p s : Int), x6.toNat ≤ d → ys.length + d ≤ 100 → (∀ x ∈ ys, smT 100 x) → x6 ≤ 1000 → Cur cs p →
    Tot (fun k => spec_l2Draw.l0 k ys x6 cs p s) (fun r => r.1.length ≤ ys.length + d ∧ (∀ x ∈ r.1, smT 100 x) ∧ Cur cs r.2.1)
  | 0, ys, x6, p, s, hd, hl, hs, h1, hc => by
    exact Tot.step (fun k => by rw [spec_l2Draw.l0]) (Tot.neg (by omega) (Tot.some ⟨by show ys.length ≤ _; omega, hs, hc⟩))
  | d + 1, ys, x6, p, s, hd, hl, hs, h1, hc => by
    refine Tot.step (fun k => by rw [spec_l2Draw.l0]) (Tot.ite (fun c => ?_) (fun c => Tot.some ⟨by show ys.length ≤ _; omega, hs, hc⟩))
    refine Tot.bind (l2DrawTerm_tot cs p s hc) (fun a ha => Tot.pos (by omega) ?_)
    rw [w64 (x := x6 - 1) (by omega) (by omega)]
    refine (l2Draw_l0 cs d _ (x6 - 1) _ _ (by omega) (by simp; omega) ?_ (by omega) ha.2).mono (fun r hr => ⟨by have := hr.1; simp at this; omega, hr.2⟩)
    intro x hx
    rcases List.mem_append.1 hx with h | h
    · exact hs x h
    · rw [List.mem_singleton.1 h]; exact ha.1
theorem l2Draw_tot (cs : List Int) (p s n : Int) (hn : n ≤ 20) (hc : Cur cs p) : Tot (fun k => spec_l2Draw.f k cs p s n) (fun r => r.1.length ≤ 20 ∧ (∀ x ∈ r.1, smT 100 x) ∧ Cur cs r.2.1) := by
  unfold spec_l2Draw.f
  refine Tot.bind (l1Below_tot cs p s n hc) (fun a ha => ?_)
  have hu := ha.1
  have : a.1 ≤ 20 ∧ 0 ≤ a.1 := by unfold Upto at hu; omega
  exact (l2Draw_l0 cs 20 [] a.1 _ _ (by omega) (by simp) (by simp) (by omega) ha.2).mono (fun r hr => ⟨by have := hr.1; simpa using this, hr.2⟩)
def AnyOk (cs : List Int) (r : List ITerm × Int × Int) : Prop := r.1.length ≤ 1000 ∧ (∀ x ∈ r.1, smT 1000 x) ∧ Cur cs r.2.1
theorem l2DrawAny_l0 (cs : List Int) : ∀ (d : Nat) (ys : List ITerm) (p s : Int), 20 ≤ ys.length + d → ys.length ≤ 100 → (∀ x ∈ ys, smT 1000 x) → Cur cs p → Tot (fun k => spec_l2DrawAny.l0 k ys cs p s) (AnyOk cs)
  | 0, ys, p, s, hd, hl, hs, hc => by
    refine Tot.step (fun k => by rw [spec_l2DrawAny.l0]) (Tot.bind (l1Below_tot cs p s 2 hc) (fun a ha => ?_))
    have hu := ha.1
    have : a.1 ≤ 2 ∧ 0 ≤ a.1 := by unfold Upto at hu; omega
    rw [w64 (by omega) (by omega)]
    exact Tot.neg (by omega) (Tot.some ⟨by show ys.length ≤ 1000; omega, hs, ha.2⟩)
  | d + 1, ys, p, s, hd, hl, hs, hc => by
    refine Tot.step (fun k => by rw [spec_l2DrawAny.l0]) (Tot.bind (l1Below_tot cs p s 2 hc) (fun a ha => ?_))
    have hu := ha.1
    have : a.1 ≤ 2 ∧ 0 ≤ a.1 := by unfold Upto at hu; omega
    rw [w64 (by omega) (by omega)]
    refine Tot.ite (fun c => Tot.pos (by omega) ?_) (fun c => Tot.some ⟨by show ys.length ≤ 1000; omega, hs, ha.2⟩)
    refine l2DrawAny_l0 cs d _ _ _ (by simp; omega) (by simp; omega) (fun x hx => ?_) ha.2
    rcases List.mem_append.1 hx with h | h
    · exact hs x h
    · rw [List.mem_singleton.1 h]; exact ⟨by decide, by simp, by simp⟩
theorem l2DrawAny_j1 (cs : List Int) (ys : List ITerm) (p s : Int) (hl : ys.length ≤ 100) (hs : ∀ x ∈ ys, smT 1000 x) (hc : Cur cs p) : Tot (fun k => spec_l2DrawAny.j1 k ys cs p s) (AnyOk cs) :=
  Tot.step (fun k => by rw [spec_l2DrawAny.j1]) (Tot.bind (l1Once_tot cs p s _ hc) (fun a ha => Tot.ite (fun _ => l2DrawAny_l0 cs 20 ys _ _ (by omega) hl hs ha) (fun _ => Tot.some ⟨by show ys.length ≤ 1000; omega, hs, ha⟩)))
theorem set_sm {ys : List ITerm} (hs : ∀ x ∈ ys, smT 1000 x) (i : Nat) {y : ITerm} (hy : smT 1000 y) : ∀ x ∈ ys.set i y, smT 1000 x := by
  intro x hx
  rcases List.mem_or_eq_of_mem_set hx with h | h
  · exact hs x h
  · rw [h]; exact hy
theorem l2DrawAny_j0 (cs : List Int) (ys : List ITerm) (b : Bool) (p s : Int) (hb : b = true → 0 < ys.length) (hl : ys.length ≤ 20) (hs : ∀ x ∈ ys, smT 100 x) (hc : Cur cs p) : Tot (fun k => spec_l2DrawAny.j0 k ys b cs p s) (AnyOk cs) := by
  have hs1 : ∀ x ∈ ys, smT 1000 x := fun x hx => smT_le (by omega) (hs x hx)
  refine Tot.step (fun k => by rw [spec_l2DrawAny.j0]) (Tot.ite (fun hbt => ?_) (fun _ => l2DrawAny_j1 cs ys p s (by omega) hs1 hc))
  have h0 := hb hbt
  refine Tot.bind (l1Below_tot cs p s _ hc) (fun a ha => Tot.bind (l1Below_tot cs _ _ 3 ha.2) (fun m hm => ?_))
  obtain ⟨a0, a1⟩ := ha.1.lt (by omega)
  obtain ⟨i, hi⟩ := Int.eq_ofNat_of_zero_le a0
  have hil : i < ys.length := by omega
  have hx := hs _ (List.getElem_mem hil)
  have e : rd_T52 ys a.1 = ys[i] := by rw [hi]; exact rdIT hil
  have ln : ∀ y, (ys.set (a.1 : Int).toNat y).length ≤ 100 := fun y => by rw [List.length_set]; omega
  refine Tot.ite (fun _ => ?_) (fun _ => Tot.ite (fun _ => ?_) (fun _ => Tot.ite (fun _ => ?_) (fun _ => l2DrawAny_j1 cs ys _ _ (by omega) hs1 hm.2)))
  · refine Tot.bind (l1Below_tot cs _ _ 7 hm.2) (fun q hq => Tot.pos a0 (Tot.pos a1 ?_))
    refine l2DrawAny_j1 cs _ _ _ (ln _) (set_sm hs1 _ ?_) hq.2
    rw [e]; exact ⟨hx.1, by have := hx.2.1; show ys[i].f2.length ≤ 1000; omega, hx.2.2⟩
  · refine Tot.bind (l1NameAny_tot cs _ _ hm.2) (fun q hq => Tot.pos a0 (Tot.pos a1 ?_))
    refine l2DrawAny_j1 cs _ _ _ (ln _) (set_sm hs1 _ ?_) hq.2
    rw [e]; exact ⟨hq.1, by have := hx.2.1; show ys[i].f2.length ≤ 1000; omega, hx.2.2⟩
  · simp only [Option.bind_some, e, List.nil_append, List.length_nil]
    have h2 := hx.2.1
    refine Tot.pos a0 (Tot.pos a1 (Tot.pos (by omega) (Tot.bind (l1NameAny_tot cs _ _ hm.2) (fun q hq => Tot.pos (by omega) ?_))))
    refine l2DrawAny_j1 cs _ _ _ (ln _) (set_sm hs1 _ ⟨hx.1, by simp; omega, fun y hy => ?_⟩) hq.2
    rcases List.mem_append.1 hy with h | h
    · exact hx.2.2 y h
    · rw [List.mem_singleton.1 h]; exact hq.1
theorem l2DrawAny_tot (cs : List Int) (p s : Int) (hc : Cur cs p) : Tot (fun k => spec_l2DrawAny.f k cs p s) (AnyOk cs) := by
  unfold spec_l2DrawAny.f
  refine Tot.bind (l2Draw_tot cs p s 5 (by omega) hc) (fun a ha => Tot.ite (fun c => Tot.bind (l1Once_tot cs _ _ _ ha.2.2) (fun b hb => ?_)) (fun c => ?_))
  · exact l2DrawAny_j0 cs a.1 _ _ _ (fun _ => by omega) ha.1 ha.2.1 hb
  · exact l2DrawAny_j0 cs a.1 _ _ _ (fun h => by cases h) ha.1 ha.2.1 ha.2.2
end Go.Proofs.Ytpjpnppoejnafaa.G

/- G44 -/
-- Laid by wip/g/gprint.py out of the translation, by the kit's print program. Lean checks it.
namespace Go.Proofs.Ytpjpnppoejnafaa.G
open Go.RowKit Go.Proofs.YtpjpnppoejnafaaW.PrintWords Go.Proofs.YtpjpnppoejnafaaW.PrintLast Go.Proofs.YtpjpnppoejnafaaW.PrintMore
attribute [local go_sem] max2_int min2_int max_two min_two max_three min_three max_four min_four   -- for this text's walks alone
set_option linter.unusedVariables false
set_option linter.unusedSimpArgs false

/-! ### strings_Join: function 44 -/
--IMPORT Derived.Test.YtpjpnppoejnafaaShelf
end Go.Proofs.Ytpjpnppoejnafaa.G

/- PJoin -/
/-
  Joined strings: strings.Join, piece by piece.
-/
namespace Go.Proofs.Ytpjpnppoejnafaa.G
open Go.RowKit Go.Proofs.YtpjpnppoejnafaaW.PrintWords Go.Proofs.YtpjpnppoejnafaaW.PrintLast Go.Proofs.YtpjpnppoejnafaaW.PrintMore
set_option linter.unusedVariables false
set_option linter.unusedSimpArgs false
end Go.Proofs.Ytpjpnppoejnafaa.G

/- G28 -/
-- Laid by wip/g/gprint.py out of the translation, by the kit's print program. Lean checks it.
namespace Go.Proofs.Ytpjpnppoejnafaa.G
open Go.RowKit Go.Proofs.YtpjpnppoejnafaaW.PrintWords Go.Proofs.YtpjpnppoejnafaaW.PrintLast Go.Proofs.YtpjpnppoejnafaaW.PrintMore
attribute [local go_sem] max2_int min2_int max_two min_two max_three min_three max_four min_four   -- for this text's walks alone
set_option linter.unusedVariables false
set_option linter.unusedSimpArgs false

/-! ### impl_SelectorText: function 28 -/
end Go.Proofs.Ytpjpnppoejnafaa.G

/- G60 -/
-- Laid by wip/g/gprint.py out of the translation, by the kit's print program. Lean checks it.
namespace Go.Proofs.Ytpjpnppoejnafaa.G
open Go.RowKit Go.Proofs.YtpjpnppoejnafaaW.PrintWords Go.Proofs.YtpjpnppoejnafaaW.PrintLast Go.Proofs.YtpjpnppoejnafaaW.PrintMore
attribute [local go_sem] max2_int min2_int max_two min_two max_three min_three max_four min_four   -- for this text's walks alone
set_option linter.unusedVariables false
set_option linter.unusedSimpArgs false

/-! ### spec_l2Text: function 60 -/
end Go.Proofs.Ytpjpnppoejnafaa.G

/- G27 -/
-- Laid by wip/g/gprint.py out of the translation, by the kit's print program. Lean checks it.
namespace Go.Proofs.Ytpjpnppoejnafaa.G
open Go.RowKit Go.Proofs.YtpjpnppoejnafaaW.PrintWords Go.Proofs.YtpjpnppoejnafaaW.PrintLast Go.Proofs.YtpjpnppoejnafaaW.PrintMore
attribute [local go_sem] max2_int min2_int max_two min_two max_three min_three max_four min_four   -- for this text's walks alone
set_option linter.unusedVariables false
set_option linter.unusedSimpArgs false

/-! ### spec_SelectorText: function 27 -/
end Go.Proofs.Ytpjpnppoejnafaa.G

/- G7 -/
-- Laid by wip/g/gprint.py out of the translation, by the kit's print program. Lean checks it.
namespace Go.Proofs.Ytpjpnppoejnafaa.G
open Go.RowKit Go.Proofs.YtpjpnppoejnafaaW.PrintWords Go.Proofs.YtpjpnppoejnafaaW.PrintLast Go.Proofs.YtpjpnppoejnafaaW.PrintMore
attribute [local go_sem] max2_int min2_int max_two min_two max_three min_three max_four min_four   -- for this text's walks alone
set_option linter.unusedVariables false
set_option linter.unusedSimpArgs false

/-! ### laws_FnExactSelectorText: function 7 -/
end Go.Proofs.Ytpjpnppoejnafaa.G

/- PSelText -/
/-
  The text of a selector; the law of SelectorText.
-/
namespace Go.Proofs.Ytpjpnppoejnafaa.G
open Go.RowKit Go.Proofs.YtpjpnppoejnafaaW.PrintWords Go.Proofs.YtpjpnppoejnafaaW.PrintLast Go.Proofs.YtpjpnppoejnafaaW.PrintMore
set_option linter.unusedVariables false
set_option linter.unusedSimpArgs false
theorem selB_parts {xs : List ITerm} (h : selB xs = true) : xs.length ≤ 8 ∧ ∀ i (hi : i < xs.length), termB xs[i] = true := by
  simp only [selB, Bool.and_eq_true, decide_eq_true_eq] at h
  refine ⟨by omega, fun i hi => ?_⟩
  have := allN_true.1 h.1 i hi
  rw [rdIT hi] at this; exact this
end Go.Proofs.Ytpjpnppoejnafaa.G

/- G34 -/
-- Laid by wip/g/gprint.py out of the translation, by the kit's print program. Lean checks it.
namespace Go.Proofs.Ytpjpnppoejnafaa.G
open Go.RowKit Go.Proofs.YtpjpnppoejnafaaW.PrintWords Go.Proofs.YtpjpnppoejnafaaW.PrintLast Go.Proofs.YtpjpnppoejnafaaW.PrintMore
attribute [local go_sem] max2_int min2_int max_two min_two max_three min_three max_four min_four   -- for this text's walks alone
set_option linter.unusedVariables false
set_option linter.unusedSimpArgs false

/-! ### spec_DrawMatches: function 34 -/
def spec_DrawMatches.f (k : Nat) (l0 : List Int) : Option ((List (S52)) × (List (S56))) := (spec_l1New.f k l0).bind fun bt658 => ((spec_l2Draw.f k bt658.1 bt658.2.1 bt658.2.2 3).bind fun bt662 => ((spec_l1Once.f bt658.1 bt662.2.1 bt662.2.2 8).bind fun bt667 => (if bt667.1 = true then ((spec_l2DrawAny.f k bt658.1 bt667.2.1 bt667.2.2).bind fun bt670 => ((spec_l1DrawAny.f k bt658.1 bt670.2.1 bt670.2.2).bind fun bt675 => (some (bt670.1, bt675.1)))) else ((spec_l1DrawAny.f k bt658.1 bt667.2.1 bt667.2.2).bind fun bt680 => (some (bt662.1, bt680.1))))))
set_option maxHeartbeats 8000000 in
set_option maxRecDepth 100000 in
theorem spec_DrawMatches.calls (k : Nat) (A0 : Option Addr) (c0 : Nat) (l0 : List Int) (r1 : List (S52)) (r2 : List (S56)) (w : World) (hr0 : Kd.C (Kd.int .u8) w A0 l0.length l0) (hc0 : l0.length ≤ c0) (h : spec_DrawMatches.f k l0 = some (r1, r2)) :
    Calls Try.prog 34 #[.slice A0 l0.length c0] w fun e w' => ∃ v0_ v1_ : Value, e = .returned (.tuple #[v0_, v1_]) ∧ Kd.S k52 52 w' w.heap.size (fun _ => True) v0_ r1 ∧ Kd.R k56 56 w' w.heap.size (fun _ => True) v1_ r2 ∧ Below w.heap.size w w' := by
  have HR0 := Aside0.mk hr0
  have HC0 := Aside0.mk hc0
  clear hr0 hc0
  have HB := Aside0.mk (Below.refl w.heap.size w)
  have H : ((spec_l1New.f k l0).bind fun bt658 => ((spec_l2Draw.f k bt658.1 bt658.2.1 bt658.2.2 3).bind fun bt662 => ((spec_l1Once.f bt658.1 bt662.2.1 bt662.2.2 8).bind fun bt667 => (if bt667.1 = true then ((spec_l2DrawAny.f k bt658.1 bt667.2.1 bt667.2.2).bind fun bt670 => ((spec_l1DrawAny.f k bt658.1 bt670.2.1 bt670.2.2).bind fun bt675 => (some (bt670.1, bt675.1)))) else ((spec_l1DrawAny.f k bt658.1 bt667.2.1 bt667.2.2).bind fun bt680 => (some (bt662.1, bt680.1))))))) = some (r1, r2) := h
  clear h
  replace H := Option.bind_eq_some_iff.mp H
  obtain ⟨⟨t658, t659, t660⟩, A20, H⟩ := H
  replace H : ((spec_l2Draw.f k t658 t659 t660 3).bind fun bt662 => ((spec_l1Once.f t658 bt662.2.1 bt662.2.2 8).bind fun bt667 => (if bt667.1 = true then ((spec_l2DrawAny.f k t658 bt667.2.1 bt667.2.2).bind fun bt670 => ((spec_l1DrawAny.f k t658 bt670.2.1 bt670.2.2).bind fun bt675 => (some (bt670.1, bt675.1)))) else ((spec_l1DrawAny.f k t658 bt667.2.1 bt667.2.2).bind fun bt680 => (some (bt662.1, bt680.1)))))) = some (r1, r2) := H
  have A2 := Aside0.mk A20
  clear A20
  replace H := Option.bind_eq_some_iff.mp H
  obtain ⟨⟨t662, t665, t666⟩, A30, H⟩ := H
  replace H : ((spec_l1Once.f t658 t665 t666 8).bind fun bt667 => (if bt667.1 = true then ((spec_l2DrawAny.f k t658 bt667.2.1 bt667.2.2).bind fun bt670 => ((spec_l1DrawAny.f k t658 bt670.2.1 bt670.2.2).bind fun bt675 => (some (bt670.1, bt675.1)))) else ((spec_l1DrawAny.f k t658 bt667.2.1 bt667.2.2).bind fun bt680 => (some (t662, bt680.1))))) = some (r1, r2) := H
  have A3 := Aside0.mk A30
  clear A30
  replace H := Option.bind_eq_some_iff.mp H
  obtain ⟨⟨t667, t668, t669⟩, A40, H⟩ := H
  replace H : (if t667 = true then ((spec_l2DrawAny.f k t658 t668 t669).bind fun bt670 => ((spec_l1DrawAny.f k t658 bt670.2.1 bt670.2.2).bind fun bt675 => (some (bt670.1, bt675.1)))) else ((spec_l1DrawAny.f k t658 t668 t669).bind fun bt680 => (some (t662, bt680.1)))) = some (r1, r2) := H
  have A4 := Aside0.mk A40
  clear A40
  by_cases c5 : t667 = true
  · subst c5
    have H1 : ((spec_l2DrawAny.f k t658 t668 t669).bind fun bt670 => ((spec_l1DrawAny.f k t658 bt670.2.1 bt670.2.2).bind fun bt675 => (some (bt670.1, bt675.1)))) = some (r1, r2) := by rw [if_pos rfl] at H; exact H
    clear H
    have H := H1
    clear H1
    replace H := Option.bind_eq_some_iff.mp H
    obtain ⟨⟨t670, t673, t674⟩, A60, H⟩ := H
    replace H : ((spec_l1DrawAny.f k t658 t673 t674).bind fun bt675 => (some (t670, bt675.1))) = some (r1, r2) := H
    have A6 := Aside0.mk A60
    clear A60
    replace H := Option.bind_eq_some_iff.mp H
    obtain ⟨⟨t675, t678, t679⟩, A70, H⟩ := H
    replace H : (some (t670, t675)) = some (r1, r2) := H
    have A7 := Aside0.mk A70
    clear A70
    simp only [Option.some.injEq, Prod.mk.injEq] at H
    obtain ⟨rfl, rfl⟩ := H
    go_enter Try.func34, Try.ntmps34
    go_wp2_with (first | ((with_reducible refine gate_callee (f := 67) rfl ?_); refine goesL_ (some 7) rfl rfl Try.func67 (by kernel_rfl) rfl #[.slice A0 l0.length c0] rfl (by (try simp only [List.map_toArray, List.map_cons, List.map_nil]); first | done | rfl | (simp only [List.length_drop, List.length_take]; rfl)) ?_; (with_reducible refine (spec_l1New.calls k _ _ l0 t658 t659 t660 w _ ?side1 ?side2 ?side3 A2.out).mono ?_); (case side1 => repeat (first | (with_reducible first | exact HB.out | apply below_alloc | apply pw_below_drewN | apply below_drew1) | exact HB.out)); (case side2 => exact HR0.out); (case side3 => exact HC0.out); rintro e w8 ⟨g661, rfl, hi, hb, hb2⟩; refine ⟨_, rfl, ?_⟩; have n0_ := Aside0.mk (hb); have n1_ := Aside0.mk (hi); clear HB; have HB := n0_; have HI661 := n1_; clear n0_ n1_; (try clear hb); (try clear hb2); (try clear hk); (try clear hi)) | ((with_reducible refine gate_callee (f := 68) rfl ?_); refine goesL_ (some 9) rfl rfl Try.func68 (by kernel_rfl) rfl #[.pointer (some ⟨g661, 0, none⟩), .int .i64 3] rfl (by (try simp only [List.map_toArray, List.map_cons, List.map_nil]); first | done | rfl | (simp only [List.length_drop, List.length_take]; rfl)) ?_; (with_reducible refine (spec_l2Draw.calls k g661 t658 t659 t660 3 t662 t665 t666 w _ ?side1 ?side2 A3.out).mono ?_); (case side1 => repeat (first | (with_reducible first | exact HI661.out | apply IsS112.alloc | apply IsS112.drewN | apply IsS112.drew | apply IsS112.set_1 | apply IsS112.set_2) | exact HI661.out)); (case side2 => repeat (first | (with_reducible first | exact HB.out | apply below_alloc | apply pw_below_drewN | apply below_drew1 | refine below_set ?_ (IsS112.ge HI661.out)) | exact HB.out)); rintro e w9 ⟨v663, rfl, ho0, hi, hb, hk⟩; refine ⟨_, rfl, ?_⟩; have n0_ := Aside0.mk (Kd.S_lower ho0 (below_size (by repeat (first | (with_reducible first | exact HB.out | apply below_alloc | apply pw_below_drewN | apply below_drew1 | refine below_set ?_ (IsS112.ge HI661.out)) | exact HB.out)))); have n1_ := Aside0.mk (hb); have n2_ := Aside0.mk (hi); clear HB; clear HI661; have HO664 := n0_; have HB := n1_; have HI661 := n2_; clear n0_ n1_ n2_; (try clear hb); (try clear hb2); (try clear hk); (try clear hi); (try clear ho0)) | ((with_reducible refine gate_callee (f := 69) rfl ?_); refine goesL_ (some 11) rfl rfl Try.func69 (by kernel_rfl) rfl #[.pointer (some ⟨g661, 0, none⟩), .int .i64 8] rfl (by (try simp only [List.map_toArray, List.map_cons, List.map_nil]); first | done | rfl | (simp only [List.length_drop, List.length_take]; rfl)) ?_; (with_reducible refine (spec_l1Once.calls g661 t658 t665 t666 8 true t668 t669 w _ ?side1 ?side2 A4.out).mono ?_); (case side1 => repeat (first | (with_reducible first | exact HI661.out | apply IsS112.alloc | apply IsS112.drewN | apply IsS112.drew | apply IsS112.set_1 | apply IsS112.set_2) | exact HI661.out)); (case side2 => repeat (first | (with_reducible first | exact HB.out | apply below_alloc | apply pw_below_drewN | apply below_drew1 | refine below_set ?_ (IsS112.ge HI661.out)) | exact HB.out)); rintro e w10 ⟨rfl, hi, hb, hk⟩; refine ⟨_, rfl, ?_⟩; have n0_ := Aside0.mk (Kd.S_mono (Kd.S_keep (IsS112.apartS (show IsS112 w _ g661 t658 t665 t666 from by repeat (first | (with_reducible first | exact HI661.out | apply IsS112.alloc | apply IsS112.drewN | apply IsS112.drew | apply IsS112.set_1 | apply IsS112.set_2) | exact HI661.out)) (by (with_reducible repeat (first | apply Kd.S_alloc | apply Kd.S_drewN | apply Kd.S_drew)); exact HO664.out) (by decide)) hk (fun _ h => h.2)) (fun _ h => h.1)); have n1_ := Aside0.mk (hb); have n2_ := Aside0.mk (hi); clear HO664; clear HB; clear HI661; have HO664 := n0_; have HB := n1_; have HI661 := n2_; clear n0_ n1_ n2_; (try clear hb); (try clear hb2); (try clear hk); (try clear hi)) | ((with_reducible refine gate_callee (f := 70) rfl ?_); refine goesL_ (some 13) rfl rfl Try.func70 (by kernel_rfl) rfl #[.pointer (some ⟨g661, 0, none⟩)] rfl (by (try simp only [List.map_toArray, List.map_cons, List.map_nil]); first | done | rfl | (simp only [List.length_drop, List.length_take]; rfl)) ?_; (with_reducible refine (spec_l2DrawAny.calls k g661 t658 t668 t669 t670 t673 t674 w _ ?side1 ?side2 A6.out).mono ?_); (case side1 => repeat (first | (with_reducible first | exact HI661.out | apply IsS112.alloc | apply IsS112.drewN | apply IsS112.drew | apply IsS112.set_1 | apply IsS112.set_2) | exact HI661.out)); (case side2 => repeat (first | (with_reducible first | exact HB.out | apply below_alloc | apply pw_below_drewN | apply below_drew1 | refine below_set ?_ (IsS112.ge HI661.out)) | exact HB.out)); rintro e w11 ⟨v671, rfl, ho0, hi, hb, hk⟩; refine ⟨_, rfl, ?_⟩; have n0_ := Aside0.mk (Kd.S_mono (Kd.S_told (Kd.S_oldK (IsS112.apartS (show IsS112 w _ g661 t658 t668 t669 from by repeat (first | (with_reducible first | exact HI661.out | apply IsS112.alloc | apply IsS112.drewN | apply IsS112.drew | apply IsS112.set_1 | apply IsS112.set_2) | exact HI661.out)) (by (with_reducible repeat (first | apply Kd.S_alloc | apply Kd.S_drewN | apply Kd.S_drew)); exact HO664.out) (by decide)) hk) (Kd.S_base ho0)) (fun _ h_ => h_.1)); have n1_ := Aside0.mk (Kd.S_lower (Kd.S_new' ho0 (Kd.S_lt (by (with_reducible repeat (first | apply Kd.S_alloc | apply Kd.S_drewN | apply Kd.S_drew)); exact HO664.out))) (below_size (by repeat (first | (with_reducible first | exact HB.out | apply below_alloc | apply pw_below_drewN | apply below_drew1 | refine below_set ?_ (IsS112.ge HI661.out)) | exact HB.out)))); have n2_ := Aside0.mk (hb); have n3_ := Aside0.mk (hi); clear HO664; clear HB; clear HI661; have HO664 := n0_; have HO672 := n1_; have HB := n2_; have HI661 := n3_; clear n0_ n1_ n2_ n3_; (try clear hb); (try clear hb2); (try clear hk); (try clear hi); (try clear ho0)) | ((with_reducible refine gate_callee (f := 71) rfl ?_); refine goesL_ (some 16) rfl rfl Try.func71 (by kernel_rfl) rfl #[.pointer (some ⟨g661, 0, none⟩)] rfl (by (try simp only [List.map_toArray, List.map_cons, List.map_nil]); first | done | rfl | (simp only [List.length_drop, List.length_take]; rfl)) ?_; (with_reducible refine (spec_l1DrawAny.calls k g661 t658 t673 t674 t675 t678 t679 w _ ?side1 ?side2 A7.out).mono ?_); (case side1 => repeat (first | (with_reducible first | exact HI661.out | apply IsS112.alloc | apply IsS112.drewN | apply IsS112.drew | apply IsS112.set_1 | apply IsS112.set_2) | exact HI661.out)); (case side2 => repeat (first | (with_reducible first | exact HB.out | apply below_alloc | apply pw_below_drewN | apply below_drew1 | refine below_set ?_ (IsS112.ge HI661.out)) | exact HB.out)); rintro e w12 ⟨v676, rfl, ho0, hi, hb, hk⟩; refine ⟨_, rfl, ?_⟩; have n0_ := Aside0.mk (Kd.S_mono (Kd.S_keep (IsS112.apartS (show IsS112 w _ g661 t658 t673 t674 from by repeat (first | (with_reducible first | exact HI661.out | apply IsS112.alloc | apply IsS112.drewN | apply IsS112.drew | apply IsS112.set_1 | apply IsS112.set_2) | exact HI661.out)) (by (with_reducible repeat (first | apply Kd.S_alloc | apply Kd.S_drewN | apply Kd.S_drew)); exact HO664.out) (by decide)) hk (fun _ h => h.2)) (fun _ h => h.1)); have n1_ := Aside0.mk (Kd.S_mono (Kd.S_keep (IsS112.apartS (show IsS112 w _ g661 t658 t673 t674 from by repeat (first | (with_reducible first | exact HI661.out | apply IsS112.alloc | apply IsS112.drewN | apply IsS112.drew | apply IsS112.set_1 | apply IsS112.set_2) | exact HI661.out)) (by (with_reducible repeat (first | apply Kd.S_alloc | apply Kd.S_drewN | apply Kd.S_drew)); exact HO672.out) (by decide)) hk (fun _ h => h.2)) (fun _ h => h.1)); have n2_ := Aside0.mk (Kd.R_lower ho0 (below_size (by repeat (first | (with_reducible first | exact HB.out | apply below_alloc | apply pw_below_drewN | apply below_drew1 | refine below_set ?_ (IsS112.ge HI661.out)) | exact HB.out)))); have n3_ := Aside0.mk (hb); have n4_ := Aside0.mk (hi); clear HO664; clear HO672; clear HB; clear HI661; have HO664 := n0_; have HO672 := n1_; have HO677 := n2_; have HB := n3_; have HI661 := n4_; clear n0_ n1_ n2_ n3_ n4_; (try clear hb); (try clear hb2); (try clear hk); (try clear hi); (try clear ho0)))
    go_ret2
    exact ⟨_, _, by first | rfl | (simp [errW_none, errW_some] <;> rfl) | (simp [*, errW_none, errW_some] <;> rfl), by (with_reducible repeat (first | apply Kd.S_alloc | apply Kd.S_drewN | apply Kd.S_drew)); exact Kd.S_mono HO672.out (fun _ hk => trivial), by (with_reducible repeat (first | apply Kd.R_alloc | apply Kd.R_drewN | apply Kd.R_drew)); exact HO677.out, by repeat (first | (with_reducible first | exact HB.out | apply below_alloc | apply pw_below_drewN | apply below_drew1 | refine below_set ?_ (IsS112.ge HI661.out)) | exact HB.out)⟩
  · replace c5 := Bool.eq_false_iff.mpr c5
    subst c5
    have H1 : ((spec_l1DrawAny.f k t658 t668 t669).bind fun bt680 => (some (t662, bt680.1))) = some (r1, r2) := by rw [if_neg (show ¬ (false = true) by decide)] at H; exact H
    clear H
    have H := H1
    clear H1
    replace H := Option.bind_eq_some_iff.mp H
    obtain ⟨⟨t680, t683, t684⟩, A130, H⟩ := H
    replace H : (some (t662, t680)) = some (r1, r2) := H
    have A13 := Aside0.mk A130
    clear A130
    simp only [Option.some.injEq, Prod.mk.injEq] at H
    obtain ⟨rfl, rfl⟩ := H
    go_enter Try.func34, Try.ntmps34
    go_wp2_with (first | ((with_reducible refine gate_callee (f := 67) rfl ?_); refine goesL_ (some 7) rfl rfl Try.func67 (by kernel_rfl) rfl #[.slice A0 l0.length c0] rfl (by (try simp only [List.map_toArray, List.map_cons, List.map_nil]); first | done | rfl | (simp only [List.length_drop, List.length_take]; rfl)) ?_; (with_reducible refine (spec_l1New.calls k _ _ l0 t658 t659 t660 w _ ?side1 ?side2 ?side3 A2.out).mono ?_); (case side1 => repeat (first | (with_reducible first | exact HB.out | apply below_alloc | apply pw_below_drewN | apply below_drew1) | exact HB.out)); (case side2 => exact HR0.out); (case side3 => exact HC0.out); rintro e w14 ⟨g661, rfl, hi, hb, hb2⟩; refine ⟨_, rfl, ?_⟩; have n0_ := Aside0.mk (hb); have n1_ := Aside0.mk (hi); clear HB; have HB := n0_; have HI661 := n1_; clear n0_ n1_; (try clear hb); (try clear hb2); (try clear hk); (try clear hi)) | ((with_reducible refine gate_callee (f := 68) rfl ?_); refine goesL_ (some 9) rfl rfl Try.func68 (by kernel_rfl) rfl #[.pointer (some ⟨g661, 0, none⟩), .int .i64 3] rfl (by (try simp only [List.map_toArray, List.map_cons, List.map_nil]); first | done | rfl | (simp only [List.length_drop, List.length_take]; rfl)) ?_; (with_reducible refine (spec_l2Draw.calls k g661 t658 t659 t660 3 t662 t665 t666 w _ ?side1 ?side2 A3.out).mono ?_); (case side1 => repeat (first | (with_reducible first | exact HI661.out | apply IsS112.alloc | apply IsS112.drewN | apply IsS112.drew | apply IsS112.set_1 | apply IsS112.set_2) | exact HI661.out)); (case side2 => repeat (first | (with_reducible first | exact HB.out | apply below_alloc | apply pw_below_drewN | apply below_drew1 | refine below_set ?_ (IsS112.ge HI661.out)) | exact HB.out)); rintro e w15 ⟨v663, rfl, ho0, hi, hb, hk⟩; refine ⟨_, rfl, ?_⟩; have n0_ := Aside0.mk (Kd.S_lower ho0 (below_size (by repeat (first | (with_reducible first | exact HB.out | apply below_alloc | apply pw_below_drewN | apply below_drew1 | refine below_set ?_ (IsS112.ge HI661.out)) | exact HB.out)))); have n1_ := Aside0.mk (hb); have n2_ := Aside0.mk (hi); clear HB; clear HI661; have HO664 := n0_; have HB := n1_; have HI661 := n2_; clear n0_ n1_ n2_; (try clear hb); (try clear hb2); (try clear hk); (try clear hi); (try clear ho0)) | ((with_reducible refine gate_callee (f := 69) rfl ?_); refine goesL_ (some 11) rfl rfl Try.func69 (by kernel_rfl) rfl #[.pointer (some ⟨g661, 0, none⟩), .int .i64 8] rfl (by (try simp only [List.map_toArray, List.map_cons, List.map_nil]); first | done | rfl | (simp only [List.length_drop, List.length_take]; rfl)) ?_; (with_reducible refine (spec_l1Once.calls g661 t658 t665 t666 8 false t668 t669 w _ ?side1 ?side2 A4.out).mono ?_); (case side1 => repeat (first | (with_reducible first | exact HI661.out | apply IsS112.alloc | apply IsS112.drewN | apply IsS112.drew | apply IsS112.set_1 | apply IsS112.set_2) | exact HI661.out)); (case side2 => repeat (first | (with_reducible first | exact HB.out | apply below_alloc | apply pw_below_drewN | apply below_drew1 | refine below_set ?_ (IsS112.ge HI661.out)) | exact HB.out)); rintro e w16 ⟨rfl, hi, hb, hk⟩; refine ⟨_, rfl, ?_⟩; have n0_ := Aside0.mk (Kd.S_mono (Kd.S_keep (IsS112.apartS (show IsS112 w _ g661 t658 t665 t666 from by repeat (first | (with_reducible first | exact HI661.out | apply IsS112.alloc | apply IsS112.drewN | apply IsS112.drew | apply IsS112.set_1 | apply IsS112.set_2) | exact HI661.out)) (by (with_reducible repeat (first | apply Kd.S_alloc | apply Kd.S_drewN | apply Kd.S_drew)); exact HO664.out) (by decide)) hk (fun _ h => h.2)) (fun _ h => h.1)); have n1_ := Aside0.mk (hb); have n2_ := Aside0.mk (hi); clear HO664; clear HB; clear HI661; have HO664 := n0_; have HB := n1_; have HI661 := n2_; clear n0_ n1_ n2_; (try clear hb); (try clear hb2); (try clear hk); (try clear hi)) | ((with_reducible refine gate_callee (f := 71) rfl ?_); refine goesL_ (some 16) rfl rfl Try.func71 (by kernel_rfl) rfl #[.pointer (some ⟨g661, 0, none⟩)] rfl (by (try simp only [List.map_toArray, List.map_cons, List.map_nil]); first | done | rfl | (simp only [List.length_drop, List.length_take]; rfl)) ?_; (with_reducible refine (spec_l1DrawAny.calls k g661 t658 t668 t669 t680 t683 t684 w _ ?side1 ?side2 A13.out).mono ?_); (case side1 => repeat (first | (with_reducible first | exact HI661.out | apply IsS112.alloc | apply IsS112.drewN | apply IsS112.drew | apply IsS112.set_1 | apply IsS112.set_2) | exact HI661.out)); (case side2 => repeat (first | (with_reducible first | exact HB.out | apply below_alloc | apply pw_below_drewN | apply below_drew1 | refine below_set ?_ (IsS112.ge HI661.out)) | exact HB.out)); rintro e w17 ⟨v681, rfl, ho0, hi, hb, hk⟩; refine ⟨_, rfl, ?_⟩; have n0_ := Aside0.mk (Kd.S_mono (Kd.S_keep (IsS112.apartS (show IsS112 w _ g661 t658 t668 t669 from by repeat (first | (with_reducible first | exact HI661.out | apply IsS112.alloc | apply IsS112.drewN | apply IsS112.drew | apply IsS112.set_1 | apply IsS112.set_2) | exact HI661.out)) (by (with_reducible repeat (first | apply Kd.S_alloc | apply Kd.S_drewN | apply Kd.S_drew)); exact HO664.out) (by decide)) hk (fun _ h => h.2)) (fun _ h => h.1)); have n1_ := Aside0.mk (Kd.R_lower ho0 (below_size (by repeat (first | (with_reducible first | exact HB.out | apply below_alloc | apply pw_below_drewN | apply below_drew1 | refine below_set ?_ (IsS112.ge HI661.out)) | exact HB.out)))); have n2_ := Aside0.mk (hb); have n3_ := Aside0.mk (hi); clear HO664; clear HB; clear HI661; have HO664 := n0_; have HO682 := n1_; have HB := n2_; have HI661 := n3_; clear n0_ n1_ n2_ n3_; (try clear hb); (try clear hb2); (try clear hk); (try clear hi); (try clear ho0)))
    go_ret2
    exact ⟨_, _, by first | rfl | (simp [errW_none, errW_some] <;> rfl) | (simp [*, errW_none, errW_some] <;> rfl), by (with_reducible repeat (first | apply Kd.S_alloc | apply Kd.S_drewN | apply Kd.S_drew)); exact HO664.out, by (with_reducible repeat (first | apply Kd.R_alloc | apply Kd.R_drewN | apply Kd.R_drew)); exact HO682.out, by repeat (first | (with_reducible first | exact HB.out | apply below_alloc | apply pw_below_drewN | apply below_drew1 | refine below_set ?_ (IsS112.ge HI661.out)) | exact HB.out)⟩

end Go.Proofs.Ytpjpnppoejnafaa.G

/- G33 -/
-- Laid by wip/g/gprint.py out of the translation, by the kit's print program. Lean checks it.
namespace Go.Proofs.Ytpjpnppoejnafaa.G
open Go.RowKit Go.Proofs.YtpjpnppoejnafaaW.PrintWords Go.Proofs.YtpjpnppoejnafaaW.PrintLast Go.Proofs.YtpjpnppoejnafaaW.PrintMore
attribute [local go_sem] max2_int min2_int max_two min_two max_three min_three max_four min_four   -- for this text's walks alone
set_option linter.unusedVariables false
set_option linter.unusedSimpArgs false

/-! ### laws_big: function 33 -/
def laws_big.f (l0 : List Int) : Option (Bool) := some (decide ((l0.length : Int) > 1048576))
set_option maxHeartbeats 8000000 in
set_option maxRecDepth 100000 in
theorem laws_big.calls (A0 : Option Addr) (c0 : Nat) (l0 : List Int) (r : Bool) (w : World) (hr0 : Kd.C (Kd.int .u8) w A0 l0.length l0) (hc0 : l0.length ≤ c0) (h : laws_big.f l0 = some r) :
    Calls Try.prog 33 #[.slice A0 l0.length c0] w fun e w' => e = .returned (.bool r) ∧ Drawn0 w w' := by
  have HR0 := Aside0.mk hr0
  have HC0 := Aside0.mk hc0
  clear hr0 hc0
  have H : (some (decide ((l0.length : Int) > 1048576))) = some r := h
  clear h
  obtain rfl := Option.some.inj H
  go_enter Try.func33, Try.ntmps33
  go_wp2
  go_ret
  exact ⟨by first | rfl | (simp; done) | (simp [*]; done), by repeat (first | exact Drawn0.refl _ | apply Drawn0.step)⟩

end Go.Proofs.Ytpjpnppoejnafaa.G
