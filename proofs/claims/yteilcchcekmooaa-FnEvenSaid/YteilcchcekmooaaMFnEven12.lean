import Derived.Test.YteilcchcekmooaaMFnEven1
import Derived.Test.YteilcchcekmooaaMFnEven10
import Derived.Test.YteilcchcekmooaaMFnEven11
import Derived.ChangeArms
import Derived.ChangeShapes
import Derived.DataReads
import Derived.Test.YteilcchcekmooaaMFnEven9
import Derived.Test.YteilcchcekmooaaMFnEven3
import Derived.Test.YteilcchcekmooaaMFnEven7
/- G13 -/
-- Laid by wip/g/gprint.py out of the translation, by the kit's print program. Lean checks it.
namespace Go.Proofs.Yteilcchcekmooaa.G
open Go.RowKit Go.Proofs.YteilcchcekmooaaW.PrintWords Go.Proofs.YteilcchcekmooaaW.PrintLast Go.Proofs.YteilcchcekmooaaW.PrintMore
attribute [local go_sem] max2_int min2_int max_two min_two max_three min_three max_four min_four   -- for this text's walks alone
set_option linter.unusedVariables false
set_option linter.unusedSimpArgs false

/-! ### spec_DrawDivide: function 13 -/
end Go.Proofs.Yteilcchcekmooaa.G

/- G12 -/
-- Laid by wip/g/gprint.py out of the translation, by the kit's print program. Lean checks it.
namespace Go.Proofs.Yteilcchcekmooaa.G
open Go.RowKit Go.Proofs.YteilcchcekmooaaW.PrintWords Go.Proofs.YteilcchcekmooaaW.PrintLast Go.Proofs.YteilcchcekmooaaW.PrintMore
attribute [local go_sem] max2_int min2_int max_two min_two max_three min_three max_four min_four   -- for this text's walks alone
set_option linter.unusedVariables false
set_option linter.unusedSimpArgs false

/-! ### laws_big: function 12 -/
def laws_big.f (l0 : List Int) : Option (Bool) := some (decide ((l0.length : Int) > 1048576))
set_option maxHeartbeats 8000000 in
set_option maxRecDepth 100000 in
theorem laws_big.calls (A0 : Option Addr) (c0 : Nat) (l0 : List Int) (r : Bool) (w : World) (hr0 : Kd.C (Kd.int .u8) w A0 l0.length l0) (hc0 : l0.length ≤ c0) (h : laws_big.f l0 = some r) :
    Calls Try.prog 12 #[.slice A0 l0.length c0] w fun e w' => e = .returned (.bool r) ∧ Drawn0 w w' := by
  have HR0 := Aside0.mk hr0
  have HC0 := Aside0.mk hc0
  clear hr0 hc0
  have H : (some (decide ((l0.length : Int) > 1048576))) = some r := h
  clear h
  obtain rfl := Option.some.inj H
  go_enter Try.func12, Try.ntmps12
  go_wp2
  go_ret
  exact ⟨by first | rfl | (simp; done) | (simp [*]; done), by repeat (first | exact Drawn0.refl _ | apply Drawn0.step)⟩

end Go.Proofs.Yteilcchcekmooaa.G

/- PDivDraw -/
/-
  What is drawn for a division: some numbers.
-/
namespace Go.Proofs.Yteilcchcekmooaa.G
open Go.RowKit Go.Proofs.YteilcchcekmooaaW.PrintWords Go.Proofs.YteilcchcekmooaaW.PrintLast Go.Proofs.YteilcchcekmooaaW.PrintMore
set_option linter.unusedVariables false
set_option linter.unusedSimpArgs false
theorem dInt_tot (cs : List Int) (p s : Int) (l : List Int) (hc : Cur cs p) (h0 : 0 < l.length) (hl : l.length ≤ 1000) : Tot (fun _ => spec_l1Int.f cs p s l) (fun r => r.1 ∈ l ∧ Cur cs r.2.1) := by
  unfold spec_l1Int.f
  refine Tot.bind (l1Below_tot cs p s _ hc) (fun a ha => ?_)
  have hu := Upto.lt ha.1 (by omega : (0 : Int) < (l.length : Int))
  refine Tot.pos hu.1 (Tot.pos hu.2 (Tot.some ⟨?_, ha.2⟩))
  obtain ⟨i, hi⟩ : ∃ i : Nat, a.1 = i := ⟨a.1.toNat, by omega⟩
  have hil : i < l.length := by omega
  show rd l a.1 ∈ l
  rw [hi]
  have : rd l (i : Int) = l[i] := by unfold rd; rw [Int.toNat_natCast, List.getD_eq_getElem?_getD, List.getElem?_eq_getElem hil]; rfl
  rw [this]
  exact List.getElem_mem hil
theorem l6Draw_l0 (cs : List Int) : ∀ (d : Nat) (x7 x8 : List Int) (p s : Int), x7.length + d ≤ 1000 → x8.length + d ≤ 1000 → Cur cs p → Tot (fun k => spec_l6Draw.l0 k x7 x8 (d : Int) cs p s) (fun r => (-1 ≤ r.1 ∧ r.1 ≤ 10001) ∧ Cur cs r.2.2.2.1)
  | 0, x7, x8, p, s, h7, h8, hc => by
    refine Tot.step (fun k => by rw [spec_l6Draw.l0]) (Tot.neg (by omega) (Tot.bind (dInt_tot cs p s _ hc (by simp) (by simp)) (fun a ha => Tot.bind (l1Below_tot cs _ _ 16 ha.2) (fun b hb => ?_))))
    have hm := ha.1
    simp only [List.mem_cons, List.not_mem_nil, or_false] at hm
    have hn : -1 ≤ a.1 ∧ a.1 ≤ 10001 := by omega
    refine Tot.ite (fun _ => Tot.bind (dInt_tot cs _ _ _ hb.2 (by simp) (by simp)) (fun e he => Tot.some ⟨?_, he.2⟩)) (fun _ => Tot.ite (fun _ => Tot.pos (by omega) (Tot.some ⟨hn, hb.2⟩)) (fun _ => Tot.ite (fun _ => Tot.bind (dInt_tot cs _ _ _ hb.2 (by simp) (by simp)) (fun e he => Tot.pos (by omega) (Tot.pos (by omega) (Tot.some ⟨hn, he.2⟩)))) (fun _ => Tot.some ⟨hn, hb.2⟩)))
    have hm2 := he.1
    simp only [List.mem_cons, List.not_mem_nil, or_false] at hm2
    show -1 ≤ e.1 ∧ e.1 ≤ 10001
    omega
  | d + 1, x7, x8, p, s, h7, h8, hc => by
    refine Tot.step (fun k => by rw [spec_l6Draw.l0]) (Tot.pos (by omega) (Tot.bind (dInt_tot cs p s _ hc (by simp) (by simp)) (fun a ha => Tot.pos (by omega) (Tot.bind (dInt_tot cs _ _ _ ha.2 (by simp) (by simp)) (fun b hb => Tot.pos (by omega) ?_)))))
    rw [show wrap64 (((d + 1 : Nat) : Int) - 1) = (d : Int) by rw [w64 (by omega) (by omega)]; omega]
    exact l6Draw_l0 cs d _ _ _ _ (by rw [List.length_append]; simp; omega) (by rw [List.length_append]; simp; omega) hb.2
theorem l6Draw_tot (cs : List Int) (p s n : Int) (hc : Cur cs p) (hn : n ≤ 1000) : Tot (fun k => spec_l6Draw.f k cs p s n) (fun r => (-1 ≤ r.1 ∧ r.1 ≤ 10001) ∧ Cur cs r.2.2.2.1) := by
  unfold spec_l6Draw.f
  refine Tot.bind (l1Below_tot cs p s n hc) (fun a ha => ?_)
  obtain ⟨d, hd⟩ : ∃ d : Nat, a.1 = d := ⟨a.1.toNat, by have := ha.1.1; omega⟩
  have hu := ha.1
  unfold Upto at hu
  rw [hd]
  exact l6Draw_l0 cs d [] [] _ _ (by simp; omega) (by simp; omega) ha.2
theorem l1Size_tot (l : List Int) (n : Int) (hl : l.length ≤ 1048576) (hn : n ≤ 1000) : Tot (fun _ => spec_l1Size.f l n) (fun r => r ≤ 1000) := by
  unfold spec_l1Size.f
  exact Tot.ite (fun c => Tot.some hn) (fun c => Tot.some (by omega))
end Go.Proofs.Yteilcchcekmooaa.G

/- GKOpen -/
/-
  An argument that can be read as data (the form's own reading) is of a kind 'Kd'; and what is known of it besides ('Wf').
-/
namespace Go.Proofs.Yteilcchcekmooaa.G
open Go.RowKit Go.Proofs.YteilcchcekmooaaW.PrintWords Go.Proofs.YteilcchcekmooaaW.PrintLast Go.Proofs.YteilcchcekmooaaW.PrintMore
set_option linter.unusedVariables false
section
variable {H : Type} {enc : TypeId × Value → H} {P : Program} {w : World} {base : Nat} {spare : Nat → Bool} {held : Bool}
def KOpens {α : Type} (enc : TypeId × Value → H) (P : Program) (w : World) (base : Nat) (spare : Nat → Bool) (held : Bool) (n : Nat) (t : TypeId) (k : Kd α) (Wf : α → Prop) : Prop :=
  ∀ cs x, DataW.trod enc P w base spare held n t cs = some x → ∃ a, Wf a ∧ k.K w a cs
theorem kopens_u8 {n : Nat} {t : TypeId} (ht : P.underlying t = some (.int .u8)) : KOpens enc P w base spare held n t (Kd.int .u8) (fun i => 0 ≤ i ∧ i ≤ 255) := by
  intro cs x h
  obtain ⟨i, rfl, _, hw⟩ := DataW.trod_int ht h
  have m1 : IntKind.u8.min = 0 := by decide
  have m2 : IntKind.u8.max = 255 := by decide
  simp only [Lit.wf, Bool.and_eq_true, decide_eq_true_eq, m1, m2] at hw
  exact ⟨i, hw, rfl⟩
theorem list_pick {α : Type} {P : Nat → α → Prop} : ∀ (n : Nat), (∀ i, i < n → ∃ a, P i a) → ∃ xs : List α, xs.length = n ∧ ∀ i (h : i < xs.length), P i xs[i]
  | 0, _ => ⟨[], rfl, by simp⟩
  | n + 1, h => by
    obtain ⟨xs, hl, hx⟩ := list_pick (P := P) n (fun i hi => h i (by omega))
    obtain ⟨a, ha⟩ := h n (by omega)
    refine ⟨xs ++ [a], by simp [hl], fun i hi => ?_⟩
    by_cases hin : i < xs.length
    · rw [List.getElem_append_left hin]; exact hx i hin
    · have : i = n := by simp at hi; omega
      subst this
      rw [List.getElem_append_right (by omega)]
      simpa using ha
theorem kopens_slice {α : Type} {n : Nat} {t e : TypeId} {k : Kd α} {Wf : α → Prop} (ht : P.underlying t = some (.slice e)) (hsz : P.cellsOf e = k.sz) (hpos : 0 < k.sz) (hby : ∀ xs : List α, True → True)
    (ho : ∀ m, m < n → KOpens enc P w base spare held m e k Wf) : KOpens enc P w base spare held n t (Kd.slice e k) (fun xs => xs.length ≤ 9223372036854775807 ∧ ∀ x ∈ xs, Wf x) := by
  intro cs x h
  rcases DataW.trod_slice ht h with ⟨rfl, _⟩ | ⟨a, len, cap, elems, rest, m, hn, rfl, _, hb, hl, hm, hlen, hel, _, _⟩
  · exact ⟨[], ⟨by simp, by simp⟩, none, 0, rfl, by simp, rfl, by simp, fun h => absurd h (by simp)⟩
  · unfold maxLen at hm
    have get : ∀ i, i < len → ∃ p : α, Wf p ∧ ∃ cs', w.cells? base (a.add (i * k.sz)) k.sz = some cs' ∧ k.K w p cs' := by
      intro i hi
      have h1 := hel i hi
      rw [hsz, List.getElem?_eq_getElem (by omega), Option.bind_eq_some_iff] at h1
      obtain ⟨cs', h1, h2⟩ := h1
      obtain ⟨p, hp, hK⟩ := ho m (by omega) _ _ h2
      exact ⟨p, hp, cs', h1, hK⟩
    obtain ⟨xs, hxl, hxs⟩ := list_pick len get
    refine ⟨xs, ⟨by omega, fun p hp => ?_⟩, some a, cap, by rw [hxl], by omega, rfl, by omega, fun _ => ⟨a, rfl, fun j p hj => ?_⟩⟩
    · obtain ⟨i, hi, rfl⟩ := List.getElem_of_mem hp
      exact (hxs i hi).1
    · obtain ⟨hjl, rfl⟩ := List.getElem?_eq_some_iff.1 hj
      obtain ⟨_, cs', hc, hK⟩ := hxs j hjl
      obtain ⟨_, hl', hat'⟩ := World.cells?_some hc
      refine ⟨cs', k.K_len hK, hK, fun i u hu => ?_⟩
      have hi := (List.getElem?_eq_some_iff.1 hu).1
      have h3 := hat' i (by rw [k.K_len hK] at hi; exact hi)
      rw [hu] at h3
      have ha : (a.add (j * k.sz)).add i = a.add (j * k.sz + i) := by
        unfold Addr.add
        by_cases h1 : j * k.sz = 0 <;> by_cases h2 : i = 0 <;> simp [h1, h2, Nat.add_assoc]
      rw [ha] at h3
      exact h3
end
end Go.Proofs.Yteilcchcekmooaa.G

/- G4 -/
-- Laid by wip/g/gprint.py out of the translation, by the kit's print program. Lean checks it.
namespace Go.Proofs.Yteilcchcekmooaa.G
open Go.RowKit Go.Proofs.YteilcchcekmooaaW.PrintWords Go.Proofs.YteilcchcekmooaaW.PrintLast Go.Proofs.YteilcchcekmooaaW.PrintMore
attribute [local go_sem] max2_int min2_int max_two min_two max_three min_three max_four min_four   -- for this text's walks alone
set_option linter.unusedVariables false
set_option linter.unusedSimpArgs false

/-! ### laws_FnDivided: function 4 -/
end Go.Proofs.Yteilcchcekmooaa.G

/- PDivided -/
/-
  The law of drawn divisions is answered true.
-/
namespace Go.Proofs.Yteilcchcekmooaa.G
open Go.RowKit Go.Sort Go.Proofs.YteilcchcekmooaaW.PrintWords Go.Proofs.YteilcchcekmooaaW.PrintLast Go.Proofs.YteilcchcekmooaaW.PrintMore
set_option linter.unusedVariables false
set_option linter.unusedSimpArgs false
end Go.Proofs.Yteilcchcekmooaa.G

/- G18 -/
-- Laid by wip/g/gprint.py out of the translation, by the kit's print program. Lean checks it.
namespace Go.Proofs.Yteilcchcekmooaa.G
open Go.RowKit Go.Proofs.YteilcchcekmooaaW.PrintWords Go.Proofs.YteilcchcekmooaaW.PrintLast Go.Proofs.YteilcchcekmooaaW.PrintMore
attribute [local go_sem] max2_int min2_int max_two min_two max_three min_three max_four min_four   -- for this text's walks alone
set_option linter.unusedVariables false
set_option linter.unusedSimpArgs false

/-! ### spec_FairOk: function 18 -/
--IMPORT Derived.Test.YteilcchcekmooaaPFairB
def spec_FairOk.f (a0 : Int) (l1 : List Int) (l2 : List Int) (l3 : List Int) : Option Bool := some (fairB a0 l1 l2 l3)
theorem spec_FairOk.calls (a0 : Int) (A1 : Option Addr) (c1 : Nat) (l1 : List Int) (A2 : Option Addr) (c2 : Nat) (l2 : List Int) (A3 : Option Addr) (c3 : Nat) (l3 : List Int) (r : Bool) (w : World) (hr1 : Kd.C (Kd.int .i64) w A1 l1.length l1) (hc1 : l1.length ≤ c1) (hr2 : Kd.C (Kd.int .i64) w A2 l2.length l2) (hc2 : l2.length ≤ c2) (hr3 : Kd.C (Kd.int .i64) w A3 l3.length l3) (hc3 : l3.length ≤ c3) (h : spec_FairOk.f a0 l1 l2 l3 = some r) :
    Calls Try.prog 18 #[.int .i64 a0, .slice A1 l1.length c1, .slice A2 l2.length c2, .slice A3 l3.length c3] w fun e w' => e = .returned (.bool r) ∧ Below w.heap.size w w' := by
  obtain rfl := Option.some.inj h
  refine (specFairOk_any a0 l1 l2 l3 A1 A2 A3 c1 c2 c3 w hr1 hc1 hr2 hc2 hr3 hc3).mono ?_
  rintro e w' ⟨⟨b, rfl, hb⟩, hw⟩
  have : b = fairB a0 l1 l2 l3 := by
    rw [Bool.eq_iff_iff, fairB_iff]
    exact hb
  subst this
  exact ⟨rfl, hw⟩

end Go.Proofs.Yteilcchcekmooaa.G

/- G27 -/
-- Laid by wip/g/gprint.py out of the translation, by the kit's print program. Lean checks it.
namespace Go.Proofs.Yteilcchcekmooaa.G
open Go.RowKit Go.Proofs.YteilcchcekmooaaW.PrintWords Go.Proofs.YteilcchcekmooaaW.PrintLast Go.Proofs.YteilcchcekmooaaW.PrintMore
attribute [local go_sem] max2_int min2_int max_two min_two max_three min_three max_four min_four   -- for this text's walks alone
set_option linter.unusedVariables false
set_option linter.unusedSimpArgs false

/-! ### spec_l1Once: function 27 -/
def spec_l1Once.f (s0_0 : List Int) (s0_1 : Int) (s0_2 : Int) (a1 : Int) : Option (Bool × Int × Int) := (spec_l1Below.f s0_0 s0_1 s0_2 a1).bind fun bt361 => (some ((bt361.1 == 0), bt361.2.1, bt361.2.2))
set_option maxHeartbeats 8000000 in
set_option maxRecDepth 100000 in
theorem spec_l1Once.calls (g : Nat) (s0_0 : List Int) (s0_1 : Int) (s0_2 : Int) (a1 : Int) (r1 : Bool) (r2 : Int) (r3 : Int) (w0 w : World) (hI : IsS50 w0 w g s0_0 s0_1 s0_2) (hB : Below w0.heap.size w0 w) (h : spec_l1Once.f s0_0 s0_1 s0_2 a1 = some (r1, r2, r3)) :
    Calls Try.prog 27 #[.pointer (some ⟨g, 0, none⟩), .int .i64 a1] w fun e w' => e = .returned (.bool r1) ∧ IsS50 w0 w' g s0_0 r2 r3 ∧ Below w0.heap.size w0 w' ∧ KeepBut w w' g none := by
  have HI0 := Aside0.mk hI
  have HK := Aside0.mk (KeepBut.refl w g none)
  have HL := Aside0.mk hB.size
  clear hI
  have HW0 := Aside0.mk hB.size
  have HB := Aside0.mk hB
  clear hB
  have H : ((spec_l1Below.f s0_0 s0_1 s0_2 a1).bind fun bt361 => (some ((bt361.1 == 0), bt361.2.1, bt361.2.2))) = some (r1, r2, r3) := h
  clear h
  replace H := Option.bind_eq_some_iff.mp H
  obtain ⟨⟨t361, t362, t363⟩, A30, H⟩ := H
  replace H : (some ((t361 == 0), t362, t363)) = some (r1, r2, r3) := H
  have A3 := Aside0.mk A30
  clear A30
  simp only [Option.some.injEq, Prod.mk.injEq] at H
  obtain ⟨rfl, rfl, rfl⟩ := H
  go_enter Try.func27, Try.ntmps27
  go_wp2_with (first | ((with_reducible refine gate_callee (f := 28) rfl ?_); refine goesL_ (some 7) rfl rfl Try.func28 (by kernel_rfl) rfl #[.pointer (some ⟨g, 0, none⟩), .int .i64 a1] rfl (by (try simp only [List.map_toArray, List.map_cons, List.map_nil]); first | done | rfl | (simp only [List.length_drop, List.length_take]; rfl)) ?_; (with_reducible refine (spec_l1Below.calls g s0_0 s0_1 s0_2 a1 t361 t362 t363 w0 _ ?side1 ?side2 A3.out).mono ?_); (case side1 => repeat (first | (with_reducible first | exact HI0.out | apply IsS50.alloc | apply IsS50.drewN | apply IsS50.drew | apply IsS50.set_1 | apply IsS50.set_2) | exact HI0.out)); (case side2 => repeat (first | (with_reducible first | exact HB.out | apply below_alloc | apply pw_below_drewN | apply below_drew1 | refine below_set ?_ (IsS50.ge HI0.out)) | exact HB.out)); rintro e w4 ⟨rfl, hi, hb, hk⟩; refine ⟨_, rfl, ?_⟩; have n0_ := Aside0.mk (KeepBut.trans (by repeat (first | (with_reducible first | exact HK.out | apply KeepBut.set_ | apply keep_drewN | apply keep_drew | apply keep_alloc) | exact HK.out)) hk (.inl rfl)); have n1_ := Aside0.mk (hb); have n2_ := Aside0.mk (hi); clear HK; clear HB; clear HI0; have HK := n0_; have HB := n1_; have HI0 := n2_; clear n0_ n1_ n2_; (try clear hb); (try clear hb2); (try clear hk); (try clear hi)))
  go_ret
  exact ⟨by first | rfl | (simp [errW_none, errW_some] <;> rfl) | (simp [*, errW_none, errW_some] <;> rfl), by repeat (first | (with_reducible first | exact HI0.out | apply IsS50.alloc | apply IsS50.drewN | apply IsS50.drew | apply IsS50.set_1 | apply IsS50.set_2) | exact HI0.out), by repeat (first | (with_reducible first | exact HB.out | apply below_alloc | apply pw_below_drewN | apply below_drew1 | refine below_set ?_ (IsS50.ge HI0.out)) | exact HB.out), by repeat (first | (with_reducible first | exact HK.out | apply KeepBut.set_ | apply keep_drewN | apply keep_drew | apply keep_alloc) | exact HK.out)⟩

end Go.Proofs.Yteilcchcekmooaa.G

/- G16 -/
-- Laid by wip/g/gprint.py out of the translation, by the kit's print program. Lean checks it.
namespace Go.Proofs.Yteilcchcekmooaa.G
open Go.RowKit Go.Proofs.YteilcchcekmooaaW.PrintWords Go.Proofs.YteilcchcekmooaaW.PrintLast Go.Proofs.YteilcchcekmooaaW.PrintMore
attribute [local go_sem] max2_int min2_int max_two min_two max_three min_three max_four min_four   -- for this text's walks alone
set_option linter.unusedVariables false
set_option linter.unusedSimpArgs false

/-! ### spec_DrawFairOk: function 16 -/
def spec_DrawFairOk.j0 : Nat → Int → List Int → List Int → List Int → Bool → List Int → Int → Int → Option (Int × List Int × List Int × List Int)
  | 0, _, _, _, _, _, _, _, _ => none
  | k + 1, x7, x8, x9, x10, x34, x368000, x368001, x368002 => if x34 = true then ((spec_l1Below.f x368000 x368001 x368002 (x10.length : Int)).bind fun bt384 => ((spec_l1Below.f x368000 bt384.2.1 bt384.2.2 (x10.length : Int)).bind fun bt387 => ((spec_l1Below.f x368000 bt387.2.1 bt387.2.2 3).bind fun bt390 => (if 0 ≤ bt384.1 then (if bt384.1 < (x10.length : Int) then ((some (x10.set (bt384.1 : Int).toNat (wrap64 ((rd x10 bt384.1) + (wrap64 (1 + bt390.1)))) : List Int)).bind fun y394 => (if 0 ≤ bt387.1 then (if bt387.1 < (x10.length : Int) then (some (x7, x8, x9, (y394.set (bt387.1 : Int).toNat (wrap64 ((rd y394 bt387.1) - (wrap64 (1 + bt390.1))))))) else (none)) else (none))) else (none)) else (none))))) else (some (x7, x8, x9, x10))
def spec_DrawFairOk.f (k : Nat) (l0 : List Int) : Option (Int × List Int × List Int × List Int) := (spec_l1New.f k l0).bind fun bt364 => ((spec_l1Size.f l0 8).bind fun t368 => ((spec_l6Draw.f k bt364.1 bt364.2.1 bt364.2.2 t368).bind fun bt369 => ((spec_Divide.f k bt369.1 bt369.2.1 bt369.2.2.1).bind fun t378 => (if (t378.length : Int) > 1 then ((spec_l1Once.f bt364.1 bt369.2.2.2.1 bt369.2.2.2.2 2).bind fun bt381 => (spec_DrawFairOk.j0 k bt369.1 bt369.2.1 bt369.2.2.1 t378 bt381.1 bt364.1 bt381.2.1 bt381.2.2)) else (spec_DrawFairOk.j0 k bt369.1 bt369.2.1 bt369.2.2.1 t378 false bt364.1 bt369.2.2.2.1 bt369.2.2.2.2)))))
set_option maxHeartbeats 8000000 in
set_option maxRecDepth 100000 in
theorem spec_DrawFairOk.calls (k : Nat) (A0 : Option Addr) (c0 : Nat) (l0 : List Int) (r1 : Int) (r2 : List Int) (r3 : List Int) (r4 : List Int) (w : World) (hr0 : Kd.C (Kd.int .u8) w A0 l0.length l0) (hc0 : l0.length ≤ c0) (h : spec_DrawFairOk.f k l0 = some (r1, r2, r3, r4)) :
    Calls Try.prog 16 #[.slice A0 l0.length c0] w fun e w' => ∃ v1_ v2_ v3_ : Value, e = .returned (.tuple #[.int .i64 r1, v1_, v2_, v3_]) ∧ Kd.R (Kd.int .i64) 3 w' w.heap.size (fun k_ => some k_ ≠ (v2_ : Value).ownBlock ∧ some k_ ≠ (v3_ : Value).ownBlock) v1_ r2 ∧ Kd.R (Kd.int .i64) 3 w' w.heap.size (fun k_ => some k_ ≠ (v1_ : Value).ownBlock ∧ some k_ ≠ (v3_ : Value).ownBlock) v2_ r3 ∧ Kd.R (Kd.int .i64) 3 w' w.heap.size (fun k_ => some k_ ≠ (v1_ : Value).ownBlock ∧ some k_ ≠ (v2_ : Value).ownBlock) v3_ r4 ∧ Below w.heap.size w w' := by
  have HR0 := Aside0.mk hr0
  have HC0 := Aside0.mk hc0
  clear hr0 hc0
  have HB := Aside0.mk (Below.refl w.heap.size w)
  have H : ((spec_l1New.f k l0).bind fun bt364 => ((spec_l1Size.f l0 8).bind fun t368 => ((spec_l6Draw.f k bt364.1 bt364.2.1 bt364.2.2 t368).bind fun bt369 => ((spec_Divide.f k bt369.1 bt369.2.1 bt369.2.2.1).bind fun t378 => (if (t378.length : Int) > 1 then ((spec_l1Once.f bt364.1 bt369.2.2.2.1 bt369.2.2.2.2 2).bind fun bt381 => (spec_DrawFairOk.j0 k bt369.1 bt369.2.1 bt369.2.2.1 t378 bt381.1 bt364.1 bt381.2.1 bt381.2.2)) else (spec_DrawFairOk.j0 k bt369.1 bt369.2.1 bt369.2.2.1 t378 false bt364.1 bt369.2.2.2.1 bt369.2.2.2.2)))))) = some (r1, r2, r3, r4) := h
  clear h
  replace H := Option.bind_eq_some_iff.mp H
  obtain ⟨⟨t364, t365, t366⟩, A20, H⟩ := H
  replace H : ((spec_l1Size.f l0 8).bind fun t368 => ((spec_l6Draw.f k t364 t365 t366 t368).bind fun bt369 => ((spec_Divide.f k bt369.1 bt369.2.1 bt369.2.2.1).bind fun t378 => (if (t378.length : Int) > 1 then ((spec_l1Once.f t364 bt369.2.2.2.1 bt369.2.2.2.2 2).bind fun bt381 => (spec_DrawFairOk.j0 k bt369.1 bt369.2.1 bt369.2.2.1 t378 bt381.1 t364 bt381.2.1 bt381.2.2)) else (spec_DrawFairOk.j0 k bt369.1 bt369.2.1 bt369.2.2.1 t378 false t364 bt369.2.2.2.1 bt369.2.2.2.2))))) = some (r1, r2, r3, r4) := H
  have A2 := Aside0.mk A20
  clear A20
  replace H := Option.bind_eq_some_iff.mp H
  obtain ⟨t368, A30, H⟩ := H
  replace H : ((spec_l6Draw.f k t364 t365 t366 t368).bind fun bt369 => ((spec_Divide.f k bt369.1 bt369.2.1 bt369.2.2.1).bind fun t378 => (if (t378.length : Int) > 1 then ((spec_l1Once.f t364 bt369.2.2.2.1 bt369.2.2.2.2 2).bind fun bt381 => (spec_DrawFairOk.j0 k bt369.1 bt369.2.1 bt369.2.2.1 t378 bt381.1 t364 bt381.2.1 bt381.2.2)) else (spec_DrawFairOk.j0 k bt369.1 bt369.2.1 bt369.2.2.1 t378 false t364 bt369.2.2.2.1 bt369.2.2.2.2)))) = some (r1, r2, r3, r4) := H
  have A3 := Aside0.mk A30
  clear A30
  replace H := Option.bind_eq_some_iff.mp H
  obtain ⟨⟨t369, t370, t373, t376, t377⟩, A40, H⟩ := H
  replace H : ((spec_Divide.f k t369 t370 t373).bind fun t378 => (if (t378.length : Int) > 1 then ((spec_l1Once.f t364 t376 t377 2).bind fun bt381 => (spec_DrawFairOk.j0 k t369 t370 t373 t378 bt381.1 t364 bt381.2.1 bt381.2.2)) else (spec_DrawFairOk.j0 k t369 t370 t373 t378 false t364 t376 t377))) = some (r1, r2, r3, r4) := H
  have A4 := Aside0.mk A40
  clear A40
  replace H := Option.bind_eq_some_iff.mp H
  obtain ⟨t378, A50, H⟩ := H
  replace H : (if (t378.length : Int) > 1 then ((spec_l1Once.f t364 t376 t377 2).bind fun bt381 => (spec_DrawFairOk.j0 k t369 t370 t373 t378 bt381.1 t364 bt381.2.1 bt381.2.2)) else (spec_DrawFairOk.j0 k t369 t370 t373 t378 false t364 t376 t377)) = some (r1, r2, r3, r4) := H
  have A5 := Aside0.mk A50
  clear A50
  have HC6 := Aside0.mk H
  clear H
  go_enter Try.func16, Try.ntmps16
  go_upto_region 4 with (first | ((with_reducible refine gate_callee (f := 24) rfl ?_); refine goesL_ (some 15) rfl rfl Try.func24 (by kernel_rfl) rfl #[.slice A0 l0.length c0] rfl (by (try simp only [List.map_toArray, List.map_cons, List.map_nil]); first | done | rfl | (simp only [List.length_drop, List.length_take]; rfl)) ?_; (with_reducible refine (spec_l1New.calls k _ _ l0 t364 t365 t366 w _ ?side1 ?side2 ?side3 A2.out).mono ?_); (case side1 => repeat (first | (with_reducible first | exact HB.out | apply below_alloc | apply pw_below_drewN | apply below_drew1) | exact HB.out)); (case side2 => exact HR0.out); (case side3 => exact HC0.out); rintro e w7 ⟨g367, rfl, hi, hb, hb2⟩; refine ⟨_, rfl, ?_⟩; have n0_ := Aside0.mk (hb); have n1_ := Aside0.mk (hi); clear HB; have HB := n0_; have HI367 := n1_; clear n0_ n1_; (try clear hb); (try clear hb2); (try clear hk); (try clear hi)) | ((with_reducible refine gate_callee (f := 26) rfl ?_); refine goesL_ (some 19) rfl rfl Try.func26 (by kernel_rfl) rfl #[.slice A0 l0.length c0, .int .i64 8] rfl (by (try simp only [List.map_toArray, List.map_cons, List.map_nil]); first | done | rfl | (simp only [List.length_drop, List.length_take]; rfl)) ?_; (with_reducible refine (spec_l1Size.calls _ _ l0 8 t368 _ ?side1 ?side2 A3.out).mono ?_); (case side1 => repeat (first | exact (Kd.C_below HR0.out HB.out) | (with_reducible refine Kd.C_alloc ?_ _) | (with_reducible refine Kd.C_drewN ?_ _) | (with_reducible refine Kd.C_drew ?_))); (case side2 => exact HC0.out); rintro e w' ⟨rfl, ⟨nd, rfl⟩⟩; refine ⟨_, rfl, ?_⟩) | ((with_reducible refine gate_callee (f := 25) rfl ?_); refine goesL_ (some 20) rfl rfl Try.func25 (by kernel_rfl) rfl #[.pointer (some ⟨g367, 0, none⟩), .int .i64 t368] rfl (by (try simp only [List.map_toArray, List.map_cons, List.map_nil]); first | done | rfl | (simp only [List.length_drop, List.length_take]; rfl)) ?_; (with_reducible refine (spec_l6Draw.calls k g367 t364 t365 t366 t368 t369 t370 t373 t376 t377 w _ ?side1 ?side2 A4.out).mono ?_); (case side1 => repeat (first | (with_reducible first | exact HI367.out | apply IsS50.alloc | apply IsS50.drewN | apply IsS50.drew | apply IsS50.set_1 | apply IsS50.set_2) | exact HI367.out)); (case side2 => repeat (first | (with_reducible first | exact HB.out | apply below_alloc | apply pw_below_drewN | apply below_drew1 | refine below_set ?_ (IsS50.ge HI367.out)) | exact HB.out)); rintro e w8 ⟨v371, v374, rfl, ho0, ho1, hi, hb, hk⟩; refine ⟨_, rfl, ?_⟩; have n0_ := Aside0.mk (Kd.R_lower ho0 (below_size (by repeat (first | (with_reducible first | exact HB.out | apply below_alloc | apply pw_below_drewN | apply below_drew1 | refine below_set ?_ (IsS50.ge HI367.out)) | exact HB.out)))); have n1_ := Aside0.mk (Kd.R_lower ho1 (below_size (by repeat (first | (with_reducible first | exact HB.out | apply below_alloc | apply pw_below_drewN | apply below_drew1 | refine below_set ?_ (IsS50.ge HI367.out)) | exact HB.out)))); have n2_ := Aside0.mk (hb); have n3_ := Aside0.mk (hi); clear HB; clear HI367; have HO372 := n0_; have HO375 := n1_; have HB := n2_; have HI367 := n3_; clear n0_ n1_ n2_ n3_; (try clear hb); (try clear hb2); (try clear hk); (try clear hi); (try clear ho0); (try clear ho1); obtain ⟨Ao9, co9, eo9⟩ := Kd.R_slice HO372.out; subst eo9; obtain ⟨Ao10, co10, eo10⟩ := Kd.R_slice HO375.out; subst eo10) | ((with_reducible refine gate_callee (f := 6) rfl ?_); refine goesL_ (some 27) rfl rfl Try.func6 (by kernel_rfl) rfl #[.int .i64 t369, .slice Ao9 t370.length co9, .slice Ao10 t373.length co10] rfl (by (try simp only [List.map_toArray, List.map_cons, List.map_nil]); first | done | rfl | (simp only [List.length_drop, List.length_take]; rfl)) ?_; (with_reducible refine (spec_Divide.calls k t369 _ _ t370 _ _ t373 t378 _ ?side1 ?side2 ?side3 ?side4 A5.out).mono ?_); (case side1 => repeat (first | exact (Kd.R_reads' HO372.out).2.2 | (with_reducible refine Kd.C_alloc ?_ _) | (with_reducible refine Kd.C_drewN ?_ _) | (with_reducible refine Kd.C_drew ?_))); (case side2 => exact (Kd.R_reads' HO372.out).2.1); (case side3 => repeat (first | exact (Kd.R_reads' HO375.out).2.2 | (with_reducible refine Kd.C_alloc ?_ _) | (with_reducible refine Kd.C_drewN ?_ _) | (with_reducible refine Kd.C_drew ?_))); (case side4 => exact (Kd.R_reads' HO375.out).2.1); rintro e w11 ⟨v379, rfl, ho0, hb⟩; refine ⟨_, rfl, ?_⟩; have n0_ := Aside0.mk (Kd.R_elder' (by (with_reducible repeat (first | apply Kd.R_alloc | apply Kd.R_drewN | apply Kd.R_drew)); exact HO372.out) (Kd.R_base ho0) hb); have n1_ := Aside0.mk (Kd.R_elder' (by (with_reducible repeat (first | apply Kd.R_alloc | apply Kd.R_drewN | apply Kd.R_drew)); exact HO375.out) (Kd.R_base ho0) hb); have n2_ := Aside0.mk (Kd.R_lower (Kd.R_new' (Kd.R_new' ho0 (Kd.R_lt (by (with_reducible repeat (first | apply Kd.R_alloc | apply Kd.R_drewN | apply Kd.R_drew)); exact HO372.out))) (Kd.R_lt (by (with_reducible repeat (first | apply Kd.R_alloc | apply Kd.R_drewN | apply Kd.R_drew)); exact HO375.out))) (below_size (by repeat (first | (with_reducible first | exact HB.out | apply below_alloc | apply pw_below_drewN | apply below_drew1 | refine below_set ?_ (IsS50.ge HI367.out)) | exact HB.out)))); have n3_ := Aside0.mk (IsS50.below (by repeat (first | (with_reducible first | exact HI367.out | apply IsS50.alloc | apply IsS50.drewN | apply IsS50.drew | apply IsS50.set_1 | apply IsS50.set_2) | exact HI367.out)) hb); have n4_ := Aside0.mk (below_step (by repeat (first | (with_reducible first | exact HB.out | apply below_alloc | apply pw_below_drewN | apply below_drew1 | refine below_set ?_ (IsS50.ge HI367.out)) | exact HB.out)) hb); clear HO372; clear HO375; clear HI367; clear HB; have HO372 := n0_; have HO375 := n1_; have HO380 := n2_; have HI367 := n3_; have HB := n4_; clear n0_ n1_ n2_ n3_ n4_; (try clear hb); (try clear hb2); (try clear hk); (try clear hi); (try clear ho0)))
  (try simp only [Act.put, List.setIfInBounds_toArray, List.set_cons_zero, List.set_cons_succ])
  go_cut [34] (fun v34 wc => ∃ (kq : Nat) (x34_5 : Bool) (x368001_5 : Int) (x368002_5 : Int), v34 = .bool x34_5 ∧ Aside0 (spec_DrawFairOk.j0 kq t369 t370 t373 t378 x34_5 t364 x368001_5 x368002_5 = some (r1, r2, r3, r4)) ∧ Aside0 (kq ≤ k) ∧ Aside0 (Kd.R (Kd.int .i64) 3 wc w.heap.size (fun k_ => some k_ ≠ ((.slice Ao10 t373.length co10) : Value).ownBlock ∧ some k_ ≠ (v379 : Value).ownBlock) (.slice Ao9 t370.length co9) t370) ∧ Aside0 (Kd.R (Kd.int .i64) 3 wc w.heap.size (fun k_ => some k_ ≠ ((.slice Ao9 t370.length co9) : Value).ownBlock ∧ some k_ ≠ (v379 : Value).ownBlock) (.slice Ao10 t373.length co10) t373) ∧ Aside0 (Kd.R (Kd.int .i64) 3 wc w.heap.size (fun k_ => some k_ ≠ ((.slice Ao9 t370.length co9) : Value).ownBlock ∧ some k_ ≠ ((.slice Ao10 t373.length co10) : Value).ownBlock) v379 t378) ∧ Aside0 (IsS50 w wc g367 t364 x368001_5 x368002_5) ∧ Aside0 (Below w.heap.size w wc))
  case first =>
    have H := HC6.out
    clear HC6
    by_cases c12 : (t378.length : Int) > 1
    · rw [if_pos c12] at H
      have c12b0 : decide (1 < (t378.length : Int)) = true := decide_eq_true c12
      have c12b1 : decide (1 < t378.length) = true := decide_eq_true (by omega)
      clear c12
      (first | rw [c12b0] | (simp only [i64_w, i32_w]; rw [c12b0]) | skip)
      replace H := Option.bind_eq_some_iff.mp H
      obtain ⟨⟨t381, t382, t383⟩, A130, H⟩ := H
      replace H : (spec_DrawFairOk.j0 k t369 t370 t373 t378 t381 t364 t382 t383) = some (r1, r2, r3, r4) := H
      have A13 := Aside0.mk A130
      clear A130
      have H' := Aside0.mk H
      clear H
      obtain ⟨Ao14, co14, eo14⟩ := Kd.R_slice HO380.out
      subst eo14
      go_wp2_with (first | (go_at_call 27; (with_reducible refine (spec_l1Once.calls g367 t364 t376 t377 2 t381 t382 t383 w _ ?side1 ?side2 A13.out).mono ?_); (case side1 => repeat (first | (with_reducible first | exact HI367.out | apply IsS50.alloc | apply IsS50.drewN | apply IsS50.drew | apply IsS50.set_1 | apply IsS50.set_2) | exact HI367.out)); (case side2 => repeat (first | (with_reducible first | exact HB.out | apply below_alloc | apply pw_below_drewN | apply below_drew1 | refine below_set ?_ (IsS50.ge HI367.out)) | exact HB.out)); rintro e w15 ⟨rfl, hi, hb, hk⟩; have n0_ := Aside0.mk (Kd.R_mono (Kd.R_keep (IsS50.apart (show IsS50 w _ g367 t364 t376 t377 from by repeat (first | (with_reducible first | exact HI367.out | apply IsS50.alloc | apply IsS50.drewN | apply IsS50.drew | apply IsS50.set_1 | apply IsS50.set_2) | exact HI367.out)) (by (with_reducible repeat (first | apply Kd.R_alloc | apply Kd.R_drewN | apply Kd.R_drew)); exact HO372.out) (by decide)) hk (fun _ h => h.2)) (fun _ h => h.1)); have n1_ := Aside0.mk (Kd.R_mono (Kd.R_keep (IsS50.apart (show IsS50 w _ g367 t364 t376 t377 from by repeat (first | (with_reducible first | exact HI367.out | apply IsS50.alloc | apply IsS50.drewN | apply IsS50.drew | apply IsS50.set_1 | apply IsS50.set_2) | exact HI367.out)) (by (with_reducible repeat (first | apply Kd.R_alloc | apply Kd.R_drewN | apply Kd.R_drew)); exact HO375.out) (by decide)) hk (fun _ h => h.2)) (fun _ h => h.1)); have n2_ := Aside0.mk (Kd.R_mono (Kd.R_keep (IsS50.apart (show IsS50 w _ g367 t364 t376 t377 from by repeat (first | (with_reducible first | exact HI367.out | apply IsS50.alloc | apply IsS50.drewN | apply IsS50.drew | apply IsS50.set_1 | apply IsS50.set_2) | exact HI367.out)) (by (with_reducible repeat (first | apply Kd.R_alloc | apply Kd.R_drewN | apply Kd.R_drew)); exact HO380.out) (by decide)) hk (fun _ h => h.2)) (fun _ h => h.1)); have n3_ := Aside0.mk (hb); have n4_ := Aside0.mk (hi); clear HO372; clear HO375; clear HO380; clear HB; clear HI367; have HO372 := n0_; have HO375 := n1_; have HO380 := n2_; have HB := n3_; have HI367 := n4_; clear n0_ n1_ n2_ n3_ n4_; (try clear hb); (try clear hb2); (try clear hk); (try clear hi)))
      go_meet
      case rel => exact ⟨_, (t381), (t382), (t383), (by first | rfl | (simp; done) | (simp [*]; done)), H', ⟨by first | omega | exact Nat.le_refl _⟩, ⟨by (with_reducible repeat (first | apply Kd.R_alloc | apply Kd.R_drewN | apply Kd.R_drew)); exact HO372.out⟩, ⟨by (with_reducible repeat (first | apply Kd.R_alloc | apply Kd.R_drewN | apply Kd.R_drew)); exact HO375.out⟩, ⟨by (with_reducible repeat (first | apply Kd.R_alloc | apply Kd.R_drewN | apply Kd.R_drew)); exact Kd.R_mono HO380.out (fun _ hk => ⟨hk.1.2, hk.2⟩)⟩, ⟨by repeat (first | (with_reducible first | exact HI367.out | apply IsS50.alloc | apply IsS50.drewN | apply IsS50.drew | apply IsS50.set_1 | apply IsS50.set_2) | exact HI367.out)⟩, ⟨by repeat (first | (with_reducible first | exact HB.out | apply below_alloc | apply pw_below_drewN | apply below_drew1 | refine below_set ?_ (IsS50.ge HI367.out)) | exact HB.out)⟩⟩
    · rw [if_neg c12] at H
      have c12b0 : decide (1 < (t378.length : Int)) = false := decide_eq_false c12
      have c12b1 : decide (1 < t378.length) = false := decide_eq_false (by omega)
      clear c12
      (first | rw [c12b0] | (simp only [i64_w, i32_w]; rw [c12b0]) | skip)
      have H' := Aside0.mk H
      clear H
      obtain ⟨Ao16, co16, eo16⟩ := Kd.R_slice HO380.out
      subst eo16
      go_wp2
      go_meet
      case rel => exact ⟨_, (false), (t376), (t377), (by first | rfl | (simp; done) | (simp [*]; done)), H', ⟨by first | omega | exact Nat.le_refl _⟩, ⟨by (with_reducible repeat (first | apply Kd.R_alloc | apply Kd.R_drewN | apply Kd.R_drew)); exact HO372.out⟩, ⟨by (with_reducible repeat (first | apply Kd.R_alloc | apply Kd.R_drewN | apply Kd.R_drew)); exact HO375.out⟩, ⟨by (with_reducible repeat (first | apply Kd.R_alloc | apply Kd.R_drewN | apply Kd.R_drew)); exact Kd.R_mono HO380.out (fun _ hk => ⟨hk.1.2, hk.2⟩)⟩, ⟨by repeat (first | (with_reducible first | exact HI367.out | apply IsS50.alloc | apply IsS50.drewN | apply IsS50.drew | apply IsS50.set_1 | apply IsS50.set_2) | exact HI367.out)⟩, ⟨by repeat (first | (with_reducible first | exact HB.out | apply below_alloc | apply pw_below_drewN | apply below_drew1 | refine below_set ?_ (IsS50.ge HI367.out)) | exact HB.out)⟩⟩
  case rest =>
    clear HC6
    try clear c1
    try clear c2
    try clear p2
    try clear c6
    try clear c12
    try clear c12b0
    try clear c12b1
    try clear c16
    obtain ⟨kq, x34_5, x368001_5, x368002_5, rfl, HA, HJ5, HO_8, HO_9, HO_10, HI367, HB⟩ := hcut
    cases kq with
    | zero => exact absurd HA.out (by simp [spec_DrawFairOk.j0])
    | succ kj5 =>
      have H := HA.out
      clear HA
      simp only [spec_DrawFairOk.j0] at H
      by_cases c17 : x34_5 = true
      · subst c17
        have H1 : ((spec_l1Below.f t364 x368001_5 x368002_5 (t378.length : Int)).bind fun bt384 => ((spec_l1Below.f t364 bt384.2.1 bt384.2.2 (t378.length : Int)).bind fun bt387 => ((spec_l1Below.f t364 bt387.2.1 bt387.2.2 3).bind fun bt390 => (if 0 ≤ bt384.1 then (if bt384.1 < (t378.length : Int) then ((some (t378.set (bt384.1 : Int).toNat (wrap64 ((rd t378 bt384.1) + (wrap64 (1 + bt390.1)))) : List Int)).bind fun y394 => (if 0 ≤ bt387.1 then (if bt387.1 < (t378.length : Int) then (some (t369, t370, t373, (y394.set (bt387.1 : Int).toNat (wrap64 ((rd y394 bt387.1) - (wrap64 (1 + bt390.1))))))) else (none)) else (none))) else (none)) else (none))))) = some (r1, r2, r3, r4) := by rw [if_pos rfl] at H; exact H
        clear H
        have H := H1
        clear H1
        replace H := Option.bind_eq_some_iff.mp H
        obtain ⟨⟨t384, t385, t386⟩, A180, H⟩ := H
        replace H : ((spec_l1Below.f t364 t385 t386 (t378.length : Int)).bind fun bt387 => ((spec_l1Below.f t364 bt387.2.1 bt387.2.2 3).bind fun bt390 => (if 0 ≤ t384 then (if t384 < (t378.length : Int) then ((some (t378.set (t384 : Int).toNat (wrap64 ((rd t378 t384) + (wrap64 (1 + bt390.1)))) : List Int)).bind fun y394 => (if 0 ≤ bt387.1 then (if bt387.1 < (t378.length : Int) then (some (t369, t370, t373, (y394.set (bt387.1 : Int).toNat (wrap64 ((rd y394 bt387.1) - (wrap64 (1 + bt390.1))))))) else (none)) else (none))) else (none)) else (none)))) = some (r1, r2, r3, r4) := H
        have A18 := Aside0.mk A180
        clear A180
        replace H := Option.bind_eq_some_iff.mp H
        obtain ⟨⟨t387, t388, t389⟩, A190, H⟩ := H
        replace H : ((spec_l1Below.f t364 t388 t389 3).bind fun bt390 => (if 0 ≤ t384 then (if t384 < (t378.length : Int) then ((some (t378.set (t384 : Int).toNat (wrap64 ((rd t378 t384) + (wrap64 (1 + bt390.1)))) : List Int)).bind fun y394 => (if 0 ≤ t387 then (if t387 < (t378.length : Int) then (some (t369, t370, t373, (y394.set (t387 : Int).toNat (wrap64 ((rd y394 t387) - (wrap64 (1 + bt390.1))))))) else (none)) else (none))) else (none)) else (none))) = some (r1, r2, r3, r4) := H
        have A19 := Aside0.mk A190
        clear A190
        replace H := Option.bind_eq_some_iff.mp H
        obtain ⟨⟨t390, t391, t392⟩, A200, H⟩ := H
        replace H : (if 0 ≤ t384 then (if t384 < (t378.length : Int) then ((some (t378.set (t384 : Int).toNat (wrap64 ((rd t378 t384) + (wrap64 (1 + t390)))) : List Int)).bind fun y394 => (if 0 ≤ t387 then (if t387 < (t378.length : Int) then (some (t369, t370, t373, (y394.set (t387 : Int).toNat (wrap64 ((rd y394 t387) - (wrap64 (1 + t390))))))) else (none)) else (none))) else (none)) else (none)) = some (r1, r2, r3, r4) := H
        have A20 := Aside0.mk A200
        clear A200
        by_cases c21 : 0 ≤ t384
        · rw [if_pos c21] at H
          have c21b0 : decide (0 ≤ t384) = true := decide_eq_true c21
          clear c21
          by_cases c22 : t384 < (t378.length : Int)
          · rw [if_pos c22] at H
            have c22b0 : decide (t384 < (t378.length : Int)) = true := decide_eq_true c22
            clear c22
            obtain ⟨y394, hy394⟩ : ∃ y_ : List Int, y_ = (t378.set (t384 : Int).toNat (wrap64 ((rd t378 t384) + (wrap64 (1 + t390))))) := ⟨_, rfl⟩
            replace H : (if 0 ≤ t387 then (if t387 < (t378.length : Int) then (some (t369, t370, t373, (y394.set (t387 : Int).toNat (wrap64 ((rd y394 t387) - (wrap64 (1 + t390))))))) else (none)) else (none)) = some (r1, r2, r3, r4) := by first | (rw [hy394]; with_reducible exact H) | (have H2_ := (Option.bind_some _ _).symm.trans H; rw [hy394]; with_reducible exact H2_) | (have H2_ := (Option.bind_some _ _).symm.trans H; with_reducible exact H2_) | with_reducible exact H | (rw [hy394]; exact H) | exact H
            have Ny394 := Aside0.mk hy394
            clear hy394
            by_cases c24 : 0 ≤ t387
            · rw [if_pos c24] at H
              have c24b0 : decide (0 ≤ t387) = true := decide_eq_true c24
              clear c24
              by_cases c25 : t387 < (t378.length : Int)
              · rw [if_pos c25] at H
                have c25b0 : decide (t387 < (t378.length : Int)) = true := decide_eq_true c25
                clear c25
                obtain ⟨y396, hy396⟩ : ∃ y_ : List Int, y_ = (y394.set (t387 : Int).toNat (wrap64 ((rd y394 t387) - (wrap64 (1 + t390))))) := ⟨_, rfl⟩
                replace H : (some (t369, t370, t373, y396)) = some (r1, r2, r3, r4) := by first | (rw [hy396]; with_reducible exact H) | (have H2_ := (Option.bind_some _ _).symm.trans H; rw [hy396]; with_reducible exact H2_) | (have H2_ := (Option.bind_some _ _).symm.trans H; with_reducible exact H2_) | with_reducible exact H | (rw [hy396]; exact H) | exact H
                have Ny396 := Aside0.mk hy396
                clear hy396
                simp only [Option.some.injEq, Prod.mk.injEq] at H
                obtain ⟨rfl, rfl, rfl, rfl⟩ := H
                obtain ⟨Ao27, co27, eo27⟩ := Kd.R_slice HO_10.out
                subst eo27
                go_wp2_with (first | ((with_reducible refine gate_callee (f := 28) rfl ?_); refine goesL_ (some 38) rfl rfl Try.func28 (by kernel_rfl) rfl #[.pointer (some ⟨g367, 0, none⟩), .int .i64 (t378.length : Int)] rfl (by (try simp only [List.map_toArray, List.map_cons, List.map_nil]); first | done | rfl | (simp only [List.length_drop, List.length_take]; rfl)) ?_; (with_reducible refine (spec_l1Below.calls g367 t364 x368001_5 x368002_5 (t378.length : Int) t384 t385 t386 w _ ?side1 ?side2 A18.out).mono ?_); (case side1 => repeat (first | (with_reducible first | exact HI367.out | apply IsS50.alloc | apply IsS50.drewN | apply IsS50.drew | apply IsS50.set_1 | apply IsS50.set_2) | exact HI367.out)); (case side2 => repeat (first | (with_reducible first | exact HB.out | apply below_alloc | apply pw_below_drewN | apply below_drew1 | refine below_set ?_ (IsS50.ge HI367.out)) | exact HB.out)); rintro e w28 ⟨rfl, hi, hb, hk⟩; refine ⟨_, rfl, ?_⟩; have n0_ := Aside0.mk (Kd.R_mono (Kd.R_keep (IsS50.apart (show IsS50 w _ g367 t364 x368001_5 x368002_5 from by repeat (first | (with_reducible first | exact HI367.out | apply IsS50.alloc | apply IsS50.drewN | apply IsS50.drew | apply IsS50.set_1 | apply IsS50.set_2) | exact HI367.out)) (by (with_reducible repeat (first | apply Kd.R_alloc | apply Kd.R_drewN | apply Kd.R_drew)); exact HO_8.out) (by decide)) hk (fun _ h => h.2)) (fun _ h => h.1)); have n1_ := Aside0.mk (Kd.R_mono (Kd.R_keep (IsS50.apart (show IsS50 w _ g367 t364 x368001_5 x368002_5 from by repeat (first | (with_reducible first | exact HI367.out | apply IsS50.alloc | apply IsS50.drewN | apply IsS50.drew | apply IsS50.set_1 | apply IsS50.set_2) | exact HI367.out)) (by (with_reducible repeat (first | apply Kd.R_alloc | apply Kd.R_drewN | apply Kd.R_drew)); exact HO_9.out) (by decide)) hk (fun _ h => h.2)) (fun _ h => h.1)); have n2_ := Aside0.mk (Kd.R_mono (Kd.R_keep (IsS50.apart (show IsS50 w _ g367 t364 x368001_5 x368002_5 from by repeat (first | (with_reducible first | exact HI367.out | apply IsS50.alloc | apply IsS50.drewN | apply IsS50.drew | apply IsS50.set_1 | apply IsS50.set_2) | exact HI367.out)) (by (with_reducible repeat (first | apply Kd.R_alloc | apply Kd.R_drewN | apply Kd.R_drew)); exact HO_10.out) (by decide)) hk (fun _ h => h.2)) (fun _ h => h.1)); have n3_ := Aside0.mk (hb); have n4_ := Aside0.mk (hi); clear HO_8; clear HO_9; clear HO_10; clear HB; clear HI367; have HO_8 := n0_; have HO_9 := n1_; have HO_10 := n2_; have HB := n3_; have HI367 := n4_; clear n0_ n1_ n2_ n3_ n4_; (try clear hb); (try clear hb2); (try clear hk); (try clear hi)) | ((with_reducible refine gate_callee (f := 28) rfl ?_); refine goesL_ (some 42) rfl rfl Try.func28 (by kernel_rfl) rfl #[.pointer (some ⟨g367, 0, none⟩), .int .i64 (t378.length : Int)] rfl (by (try simp only [List.map_toArray, List.map_cons, List.map_nil]); first | done | rfl | (simp only [List.length_drop, List.length_take]; rfl)) ?_; (with_reducible refine (spec_l1Below.calls g367 t364 t385 t386 (t378.length : Int) t387 t388 t389 w _ ?side1 ?side2 A19.out).mono ?_); (case side1 => repeat (first | (with_reducible first | exact HI367.out | apply IsS50.alloc | apply IsS50.drewN | apply IsS50.drew | apply IsS50.set_1 | apply IsS50.set_2) | exact HI367.out)); (case side2 => repeat (first | (with_reducible first | exact HB.out | apply below_alloc | apply pw_below_drewN | apply below_drew1 | refine below_set ?_ (IsS50.ge HI367.out)) | exact HB.out)); rintro e w29 ⟨rfl, hi, hb, hk⟩; refine ⟨_, rfl, ?_⟩; have n0_ := Aside0.mk (Kd.R_mono (Kd.R_keep (IsS50.apart (show IsS50 w _ g367 t364 t385 t386 from by repeat (first | (with_reducible first | exact HI367.out | apply IsS50.alloc | apply IsS50.drewN | apply IsS50.drew | apply IsS50.set_1 | apply IsS50.set_2) | exact HI367.out)) (by (with_reducible repeat (first | apply Kd.R_alloc | apply Kd.R_drewN | apply Kd.R_drew)); exact HO_8.out) (by decide)) hk (fun _ h => h.2)) (fun _ h => h.1)); have n1_ := Aside0.mk (Kd.R_mono (Kd.R_keep (IsS50.apart (show IsS50 w _ g367 t364 t385 t386 from by repeat (first | (with_reducible first | exact HI367.out | apply IsS50.alloc | apply IsS50.drewN | apply IsS50.drew | apply IsS50.set_1 | apply IsS50.set_2) | exact HI367.out)) (by (with_reducible repeat (first | apply Kd.R_alloc | apply Kd.R_drewN | apply Kd.R_drew)); exact HO_9.out) (by decide)) hk (fun _ h => h.2)) (fun _ h => h.1)); have n2_ := Aside0.mk (Kd.R_mono (Kd.R_keep (IsS50.apart (show IsS50 w _ g367 t364 t385 t386 from by repeat (first | (with_reducible first | exact HI367.out | apply IsS50.alloc | apply IsS50.drewN | apply IsS50.drew | apply IsS50.set_1 | apply IsS50.set_2) | exact HI367.out)) (by (with_reducible repeat (first | apply Kd.R_alloc | apply Kd.R_drewN | apply Kd.R_drew)); exact HO_10.out) (by decide)) hk (fun _ h => h.2)) (fun _ h => h.1)); have n3_ := Aside0.mk (hb); have n4_ := Aside0.mk (hi); clear HO_8; clear HO_9; clear HO_10; clear HB; clear HI367; have HO_8 := n0_; have HO_9 := n1_; have HO_10 := n2_; have HB := n3_; have HI367 := n4_; clear n0_ n1_ n2_ n3_ n4_; (try clear hb); (try clear hb2); (try clear hk); (try clear hi)) | ((with_reducible refine gate_callee (f := 28) rfl ?_); refine goesL_ (some 44) rfl rfl Try.func28 (by kernel_rfl) rfl #[.pointer (some ⟨g367, 0, none⟩), .int .i64 3] rfl (by (try simp only [List.map_toArray, List.map_cons, List.map_nil]); first | done | rfl | (simp only [List.length_drop, List.length_take]; rfl)) ?_; (with_reducible refine (spec_l1Below.calls g367 t364 t388 t389 3 t390 t391 t392 w _ ?side1 ?side2 A20.out).mono ?_); (case side1 => repeat (first | (with_reducible first | exact HI367.out | apply IsS50.alloc | apply IsS50.drewN | apply IsS50.drew | apply IsS50.set_1 | apply IsS50.set_2) | exact HI367.out)); (case side2 => repeat (first | (with_reducible first | exact HB.out | apply below_alloc | apply pw_below_drewN | apply below_drew1 | refine below_set ?_ (IsS50.ge HI367.out)) | exact HB.out)); rintro e w30 ⟨rfl, hi, hb, hk⟩; refine ⟨_, rfl, ?_⟩; have n0_ := Aside0.mk (Kd.R_mono (Kd.R_keep (IsS50.apart (show IsS50 w _ g367 t364 t388 t389 from by repeat (first | (with_reducible first | exact HI367.out | apply IsS50.alloc | apply IsS50.drewN | apply IsS50.drew | apply IsS50.set_1 | apply IsS50.set_2) | exact HI367.out)) (by (with_reducible repeat (first | apply Kd.R_alloc | apply Kd.R_drewN | apply Kd.R_drew)); exact HO_8.out) (by decide)) hk (fun _ h => h.2)) (fun _ h => h.1)); have n1_ := Aside0.mk (Kd.R_mono (Kd.R_keep (IsS50.apart (show IsS50 w _ g367 t364 t388 t389 from by repeat (first | (with_reducible first | exact HI367.out | apply IsS50.alloc | apply IsS50.drewN | apply IsS50.drew | apply IsS50.set_1 | apply IsS50.set_2) | exact HI367.out)) (by (with_reducible repeat (first | apply Kd.R_alloc | apply Kd.R_drewN | apply Kd.R_drew)); exact HO_9.out) (by decide)) hk (fun _ h => h.2)) (fun _ h => h.1)); have n2_ := Aside0.mk (Kd.R_mono (Kd.R_keep (IsS50.apart (show IsS50 w _ g367 t364 t388 t389 from by repeat (first | (with_reducible first | exact HI367.out | apply IsS50.alloc | apply IsS50.drewN | apply IsS50.drew | apply IsS50.set_1 | apply IsS50.set_2) | exact HI367.out)) (by (with_reducible repeat (first | apply Kd.R_alloc | apply Kd.R_drewN | apply Kd.R_drew)); exact HO_10.out) (by decide)) hk (fun _ h => h.2)) (fun _ h => h.1)); have n3_ := Aside0.mk (hb); have n4_ := Aside0.mk (hi); clear HO_8; clear HO_9; clear HO_10; clear HB; clear HI367; have HO_8 := n0_; have HO_9 := n1_; have HO_10 := n2_; have HB := n3_; have HI367 := n4_; clear n0_ n1_ n2_ n3_ n4_; (try clear hb); (try clear hb2); (try clear hk); (try clear hi); have p393 : 0 ≤ (t384 : Int) := of_decide_eq_true (by first | (with_reducible assumption) | assumption); have q393 : t384 < (t378.length : Int) := of_decide_eq_true (by first | (with_reducible assumption) | assumption); obtain ⟨ad393, e393, hx393_0⟩ := Kd.at_int (Kd.R_reads' HO_10.out).2.2 t384 p393 q393; cases e393; replace p393 := eq_true p393; replace q393 := eq_true q393; have p23 : 0 ≤ (t384 : Int) := of_decide_eq_true (by first | (with_reducible assumption) | assumption); have q23 : (t384 : Int) < ((t378.length : Int) : Int) := of_decide_eq_true (by first | (with_reducible assumption) | assumption); obtain ⟨go23, co23, eo23, gb23, gl23, cl23, HG23⟩ := Kd.R_form HO_10.out (by omega); (first | cases eo23 | (injection eo23 with ea_ en_ ec_; (first | subst ea_ | (injection ea_ with ea_; subst ea_)); subst ec_; clear en_)); have GB23 := Aside0.mk gb23; have GG23 := Aside0.mk HG23; clear gb23 gl23 HG23; (first | simp only [add_plain] at hx393_0 | skip); obtain ⟨hx23_0, hf23_0⟩ := Kd.R_celln 0 HO_10.out (t384 : Int) p23 q23; replace p23 := eq_true p23; replace q23 := eq_true q23; obtain ⟨hy31_, hz31_⟩ := Kd.R_celln 0 HO_10.out (t384 : Int) (of_decide_eq_true (by first | (with_reducible assumption) | assumption)) (of_decide_eq_true (by first | (with_reducible assumption) | assumption)); have HP31 := Kd.R_putg HO_10.out (t384 : Int) (wrap64 ((rd t378 t384) + (wrap64 (1 + t390))))) | ((with_reducible refine gate_store (t := 3) (p := 54) rfl ?_); refine store_event (t := 3) (p := 54) (v := ?vo_w32) (w1 := (w30.setCell ⟨go23, (t384 : Int).toNat, none⟩ (.int .i64 (wrap64 ((rd t378 t384) + (wrap64 (1 + t390))))))) ?hg ?ho ?hn ?hr ?_; (case ho => rfl); (case hg => rfl); (case hn => rfl); (case hr => first | (go_simp; done) | (go_simp; rfl)); intro w32 hw; have hg : w30.grownBy w32 (some go23) := (by rw [hw]; exact HP31.2); have hp_ : Kd.R (Kd.int .i64) 3 w32 w.heap.size (fun k_ => some k_ ≠ (.slice Ao9 t370.length co9 : Value).ownBlock ∧ some k_ ≠ (.slice Ao10 t373.length co10 : Value).ownBlock) (.slice (some ⟨go23, 0, none⟩) t378.length co27) y394 := (by rw [hw, Ny394.out]; exact HP31.1); clear HP31; have n0_ := Aside0.mk (Kd.R_after (v := (.slice (some ⟨go23, 0, none⟩) t378.length co27)) (v1 := (.slice (some ⟨go23, 0, none⟩) t378.length co27)) (ok := (fun k_ => some k_ ≠ (.slice Ao10 t373.length co10 : Value).ownBlock)) (by (with_reducible repeat (first | apply Kd.R_alloc | apply Kd.R_drewN | apply Kd.R_drew)); exact HO_8.out) hg (.inl rfl)); have n1_ := Aside0.mk (Kd.R_after (v := (.slice (some ⟨go23, 0, none⟩) t378.length co27)) (v1 := (.slice (some ⟨go23, 0, none⟩) t378.length co27)) (ok := (fun k_ => some k_ ≠ (.slice Ao9 t370.length co9 : Value).ownBlock)) (by (with_reducible repeat (first | apply Kd.R_alloc | apply Kd.R_drewN | apply Kd.R_drew)); exact HO_9.out) hg (.inl rfl)); have n2_ := Aside0.mk (hp_); have n3_ := Aside0.mk (IsS50.grown (by repeat (first | (with_reducible first | exact HI367.out | apply IsS50.alloc | apply IsS50.drewN | apply IsS50.drew | apply IsS50.set_1 | apply IsS50.set_2) | exact HI367.out)) hg (IsS50.own_ne HI367.out HO_10.out (by decide))); have n4_ := Aside0.mk ((by rw [hw]; exact below_set (HB.out) GB23.out : Below w.heap.size w w32)); clear HO_8; clear HO_9; clear HO_10; clear HI367; clear HB; have HO_8 := n0_; have HO_9 := n1_; have HO_10 := n2_; have HI367 := n3_; have HB := n4_; clear n0_ n1_ n2_ n3_ n4_; clear hg hw hp_; have p395 : 0 ≤ (t387 : Int) := of_decide_eq_true (by first | (with_reducible assumption) | assumption); have q395 : t387 < (y394.length : Int) := (by have h_ : (t387 : Int) < ((t378.length : Int) : Int) := of_decide_eq_true (by first | (with_reducible assumption) | assumption); first | (have e_ := (Kd.R_reads' HO_10.out).1; omega) | simpa only [Ny394.out, List.length_set] using h_); have ql395 : ((t387 : Int) < ((t378.length : Int) : Int)) = True := eq_true (of_decide_eq_true (by first | (with_reducible assumption) | assumption)); obtain ⟨ad395, e395, hx395_0⟩ := Kd.at_int (Kd.R_reads' HO_10.out).2.2 t387 p395 q395; obtain rfl : (⟨go23, 0, none⟩ : Addr) = ad395 := (by injection e395); (first | simp only [add_plain] at hx395_0 | simp only [add_at] at hx395_0 | simp only [Addr.add, Nat.zero_add] at hx395_0 | skip); replace p395 := eq_true p395; replace q395 := eq_true q395; have p26 : 0 ≤ (t387 : Int) := of_decide_eq_true (by first | (with_reducible assumption) | assumption); have q26 : (t387 : Int) < ((t378.length : Int) : Int) := of_decide_eq_true (by first | (with_reducible assumption) | assumption); obtain ⟨hx26_0, hf26_0⟩ := Kd.R_celln 0 HO_10.out (t387 : Int) p26 q26; replace p26 := eq_true p26; replace q26 := eq_true q26; obtain ⟨hy33_, hz33_⟩ := Kd.R_celln 0 HO_10.out (t387 : Int) (of_decide_eq_true (by first | (with_reducible assumption) | assumption)) (of_decide_eq_true (by first | (with_reducible assumption) | assumption)); have HP33 := Kd.R_putg HO_10.out (t387 : Int) (wrap64 ((rd y394 t387) - (wrap64 (1 + t390))))) | ((with_reducible refine gate_store (t := 3) (p := 63) rfl ?_); refine store_event (t := 3) (p := 63) (v := ?vo_w34) (w1 := (w32.setCell ⟨go23, (t387 : Int).toNat, none⟩ (.int .i64 (wrap64 ((rd y394 t387) - (wrap64 (1 + t390))))))) ?hg ?ho ?hn ?hr ?_; (case ho => rfl); (case hg => rfl); (case hn => rfl); (case hr => first | (go_simp; done) | (go_simp; rfl)); intro w34 hw; have hg : w32.grownBy w34 (some go23) := (by rw [hw]; exact HP33.2); have hp_ : Kd.R (Kd.int .i64) 3 w34 w.heap.size (fun k_ => some k_ ≠ (.slice Ao9 t370.length co9 : Value).ownBlock ∧ some k_ ≠ (.slice Ao10 t373.length co10 : Value).ownBlock) (.slice (some ⟨go23, 0, none⟩) t378.length co27) y396 := (by rw [hw, Ny396.out]; exact HP33.1); clear HP33; have n0_ := Aside0.mk (Kd.R_after (v := (.slice (some ⟨go23, 0, none⟩) t378.length co27)) (v1 := (.slice (some ⟨go23, 0, none⟩) t378.length co27)) (ok := (fun k_ => some k_ ≠ (.slice Ao10 t373.length co10 : Value).ownBlock)) (by (with_reducible repeat (first | apply Kd.R_alloc | apply Kd.R_drewN | apply Kd.R_drew)); exact HO_8.out) hg (.inl rfl)); have n1_ := Aside0.mk (Kd.R_after (v := (.slice (some ⟨go23, 0, none⟩) t378.length co27)) (v1 := (.slice (some ⟨go23, 0, none⟩) t378.length co27)) (ok := (fun k_ => some k_ ≠ (.slice Ao9 t370.length co9 : Value).ownBlock)) (by (with_reducible repeat (first | apply Kd.R_alloc | apply Kd.R_drewN | apply Kd.R_drew)); exact HO_9.out) hg (.inl rfl)); have n2_ := Aside0.mk (hp_); have n3_ := Aside0.mk (IsS50.grown (by repeat (first | (with_reducible first | exact HI367.out | apply IsS50.alloc | apply IsS50.drewN | apply IsS50.drew | apply IsS50.set_1 | apply IsS50.set_2) | exact HI367.out)) hg (IsS50.own_ne HI367.out HO_10.out (by decide))); have n4_ := Aside0.mk ((by rw [hw]; exact below_set (HB.out) GB23.out : Below w.heap.size w w34)); clear HO_8; clear HO_9; clear HO_10; clear HI367; clear HB; have HO_8 := n0_; have HO_9 := n1_; have HO_10 := n2_; have HI367 := n3_; have HB := n4_; clear n0_ n1_ n2_ n3_ n4_; clear hg hw hp_))
                refine bodyPost_ret (results_list (rs := [.tmp 2, .tmp 3, .tmp 4, .tmp 5]) rfl (by simp) (.tmp (.tmp (.tmp (.tmp .nil))))) rfl ?_
                exact ⟨_, _, _, by first | rfl | (simp [errW_none, errW_some] <;> rfl) | (simp [*, errW_none, errW_some] <;> rfl), by (with_reducible repeat (first | apply Kd.R_alloc | apply Kd.R_drewN | apply Kd.R_drew)); exact HO_8.out, by (with_reducible repeat (first | apply Kd.R_alloc | apply Kd.R_drewN | apply Kd.R_drew)); exact HO_9.out, by (with_reducible repeat (first | apply Kd.R_alloc | apply Kd.R_drewN | apply Kd.R_drew)); exact HO_10.out, by repeat (first | (with_reducible first | exact HB.out | apply below_alloc | apply pw_below_drewN | apply below_drew1 | refine below_set ?_ (IsS50.ge HI367.out)) | exact HB.out)⟩
              · rw [if_neg c25] at H
                exact absurd H (by simp)
            · rw [if_neg c24] at H
              exact absurd H (by simp)
          · rw [if_neg c22] at H
            exact absurd H (by simp)
        · rw [if_neg c21] at H
          exact absurd H (by simp)
      · replace c17 := Bool.eq_false_iff.mpr c17
        subst c17
        have H1 : (some (t369, t370, t373, t378)) = some (r1, r2, r3, r4) := by rw [if_neg (show ¬ (false = true) by decide)] at H; exact H
        clear H
        have H := H1
        clear H1
        simp only [Option.some.injEq, Prod.mk.injEq] at H
        obtain ⟨rfl, rfl, rfl, rfl⟩ := H
        go_wp2
        refine bodyPost_ret (results_list (rs := [.tmp 2, .tmp 3, .tmp 4, .tmp 5]) rfl (by simp) (.tmp (.tmp (.tmp (.tmp .nil))))) rfl ?_
        exact ⟨_, _, _, by first | rfl | (simp [errW_none, errW_some] <;> rfl) | (simp [*, errW_none, errW_some] <;> rfl), by (with_reducible repeat (first | apply Kd.R_alloc | apply Kd.R_drewN | apply Kd.R_drew)); exact HO_8.out, by (with_reducible repeat (first | apply Kd.R_alloc | apply Kd.R_drewN | apply Kd.R_drew)); exact HO_9.out, by (with_reducible repeat (first | apply Kd.R_alloc | apply Kd.R_drewN | apply Kd.R_drew)); exact HO_10.out, by repeat (first | (with_reducible first | exact HB.out | apply below_alloc | apply pw_below_drewN | apply below_drew1 | refine below_set ?_ (IsS50.ge HI367.out)) | exact HB.out)⟩

end Go.Proofs.Yteilcchcekmooaa.G

/- G19 -/
-- Laid by wip/g/gprint.py out of the translation, by the kit's print program. Lean checks it.
namespace Go.Proofs.Yteilcchcekmooaa.G
open Go.RowKit Go.Proofs.YteilcchcekmooaaW.PrintWords Go.Proofs.YteilcchcekmooaaW.PrintLast Go.Proofs.YteilcchcekmooaaW.PrintMore
attribute [local go_sem] max2_int min2_int max_two min_two max_three min_three max_four min_four   -- for this text's walks alone
set_option linter.unusedVariables false
set_option linter.unusedSimpArgs false

/-! ### laws_at: function 19 -/
def laws_at.f (l0 : List Int) (a1 : Int) : Option (Int) := if a1 < (l0.length : Int) then (if 0 ≤ a1 then (some (wrap64 (rd l0 a1))) else (none)) else (some (Int.tmod (wrap64 ((wrap64 (a1 * 31)) + (wrap64 ((l0.length : Int) * 7)))) 256))
set_option maxHeartbeats 8000000 in
set_option maxRecDepth 100000 in
theorem laws_at.calls (A0 : Option Addr) (c0 : Nat) (l0 : List Int) (a1 : Int) (r : Int) (w : World) (hr0 : Kd.C (Kd.int .u8) w A0 l0.length l0) (hc0 : l0.length ≤ c0) (h : laws_at.f l0 a1 = some r) :
    Calls Try.prog 19 #[.slice A0 l0.length c0, .int .i64 a1] w fun e w' => e = .returned (.int .i64 r) ∧ Drawn0 w w' := by
  have HR0 := Aside0.mk hr0
  have HC0 := Aside0.mk hc0
  clear hr0 hc0
  have H : (if a1 < (l0.length : Int) then (if 0 ≤ a1 then (some (wrap64 (rd l0 a1))) else (none)) else (some (Int.tmod (wrap64 ((wrap64 (a1 * 31)) + (wrap64 ((l0.length : Int) * 7)))) 256))) = some r := h
  clear h
  by_cases c3 : a1 < (l0.length : Int)
  · rw [if_pos c3] at H
    have c3b0 : decide (a1 < (l0.length : Int)) = true := decide_eq_true c3
    clear c3
    by_cases c4 : 0 ≤ a1
    · rw [if_pos c4] at H
      have c4b0 : decide (0 ≤ a1) = true := decide_eq_true c4
      clear c4
      obtain rfl := Option.some.inj H
      have p409 : 0 ≤ (a1 : Int) := of_decide_eq_true (by first | (with_reducible assumption) | assumption)
      have q409 : a1 < (l0.length : Int) := of_decide_eq_true (by first | (with_reducible assumption) | assumption)
      obtain ⟨ad409, e409, hx409_0⟩ := Kd.at_int HR0.out a1 p409 q409
      cases e409
      replace p409 := eq_true p409
      replace q409 := eq_true q409
      go_enter Try.func19, Try.ntmps19
      go_wp2
      go_ret
      exact ⟨by first | rfl | (simp; done) | (simp [*]; done), by repeat (first | exact Drawn0.refl _ | apply Drawn0.step)⟩
    · rw [if_neg c4] at H
      exact absurd H (by simp)
  · rw [if_neg c3] at H
    have c3b0 : decide (a1 < (l0.length : Int)) = false := decide_eq_false c3
    clear c3
    obtain rfl := Option.some.inj H
    go_enter Try.func19, Try.ntmps19
    go_wp2
    go_ret
    exact ⟨by first | rfl | (simp; done) | (simp [*]; done), by repeat (first | exact Drawn0.refl _ | apply Drawn0.step)⟩

end Go.Proofs.Yteilcchcekmooaa.G
