import Derived.Test.YtchhognpijobcaaMFnExactSameValue1
import Derived.Laws.IdiomCopy
import Derived.Deep.AppendSrc
import Derived.Test.YtchhognpijobcaaMFnExactSameValue5
import Derived.Test.YtchhognpijobcaaMFnExactSameValue6
/- G51 -/
-- Laid by wip/g/gprint.py out of the translation, by the kit's print program. Lean checks it.
namespace Go.Proofs.Ytchhognpijobcaa.G
open Go.RowKit Go.Proofs.YtchhognpijobcaaW.PrintWords Go.Proofs.YtchhognpijobcaaW.PrintLast Go.Proofs.YtchhognpijobcaaW.PrintMore
attribute [local go_sem] max2_int min2_int max_two min_two max_three min_three max_four min_four   -- for this text's walks alone
set_option linter.unusedVariables false
set_option linter.unusedSimpArgs false

/-! ### slices_Equal_string_string: function 51 -/
def slices_Equal_string_string.l0 : Nat → List ByteArray → List ByteArray → Int → Int → Option (Bool)
  | 0, _, _, _, _ => none
  | k + 1, x0, x1, x12, x13 => if x13 < x12 then (if 0 ≤ x13 then (if x13 < (x0.length : Int) then (if x13 < (x1.length : Int) then (if (rdOf ByteArray.empty x0 x13).toList = (rdOf ByteArray.empty x1 x13).toList then (slices_Equal_string_string.l0 k x0 x1 x12 (wrap64 (x13 + 1))) else (some false)) else (none)) else (none)) else (none)) else (some true)
def slices_Equal_string_string.f (k : Nat) (l0 : List ByteArray) (l1 : List ByteArray) : Option (Bool) := if (l0.length : Int) = (l1.length : Int) then (slices_Equal_string_string.l0 k l0 l1 (l0.length : Int) 0) else (some false)
theorem slices_Equal_string_string.mono_l : ∀ k, (∀ y0 y1 y2 y3, LeO (slices_Equal_string_string.l0 k y0 y1 y2 y3) (slices_Equal_string_string.l0 (k + 1) y0 y1 y2 y3))
  | 0 => fun _ _ _ _ r h => by simp [slices_Equal_string_string.l0] at h
  | k + 1 => by
    have ih0 := slices_Equal_string_string.mono_l k
    · intro y0 y1 y2 y3
      unfold slices_Equal_string_string.l0
      repeat' first
      | (with_reducible exact ih0 _ _ _ _)
      | (with_reducible exact LeO.refl _)
      | (with_reducible exact LeO.none _)
      | (with_reducible refine LeO.ite ?_ ?_)
      | (with_reducible refine LeO.bind ?_ (fun _ => ?_))
      | exact ih0 _ _ _ _
      | exact LeO.none _
      | refine LeO.ite ?_ ?_
      | refine LeO.bind ?_ (fun _ => ?_)
theorem slices_Equal_string_string.mono : ∀ a0 a1 k, LeO (slices_Equal_string_string.f k a0 a1) (slices_Equal_string_string.f (k + 1) a0 a1) := by
  intro a0 a1 k
  have ih0 := slices_Equal_string_string.mono_l k
  unfold slices_Equal_string_string.f
  repeat' first
      | (with_reducible exact ih0 _ _ _ _)
      | (with_reducible exact LeO.refl _)
      | (with_reducible exact LeO.none _)
      | (with_reducible refine LeO.ite ?_ ?_)
      | (with_reducible refine LeO.bind ?_ (fun _ => ?_))
      | exact ih0 _ _ _ _
      | exact LeO.none _
      | refine LeO.ite ?_ ?_
      | refine LeO.bind ?_ (fun _ => ?_)
set_option maxHeartbeats 8000000 in
set_option maxRecDepth 100000 in
theorem slices_Equal_string_string.calls (k : Nat) (A0 : Option Addr) (c0 : Nat) (l0 : List ByteArray) (A1 : Option Addr) (c1 : Nat) (l1 : List ByteArray) (r : Bool) (w : World) (hr0 : Kd.C Kd.string w A0 l0.length l0) (hc0 : l0.length ≤ c0) (hr1 : Kd.C Kd.string w A1 l1.length l1) (hc1 : l1.length ≤ c1) (h : slices_Equal_string_string.f k l0 l1 = some r) :
    Calls Try.prog 51 #[.slice A0 l0.length c0, .slice A1 l1.length c1] w fun e w' => e = .returned (.bool r) ∧ Drawn0 w w' := by
  have HR0 := Aside0.mk hr0
  have HC0 := Aside0.mk hc0
  clear hr0 hc0
  have HR1 := Aside0.mk hr1
  have HC1 := Aside0.mk hc1
  clear hr1 hc1
  have H : (if (l0.length : Int) = (l1.length : Int) then (slices_Equal_string_string.l0 k l0 l1 (l0.length : Int) 0) else (some false)) = some r := h
  clear h
  by_cases c3 : (l0.length : Int) = (l1.length : Int)
  · rw [if_pos c3] at H
    have c3b0 : ((l0.length : Int) == (l1.length : Int)) = true := beq_iff_eq.mpr c3
    have c3b1 : ((l0.length : Int) != (l1.length : Int)) = false := bne_eq_false_iff_eq.mpr c3
    have c3b2 : (l0.length == l1.length) = true := by first | simpa using c3 | (simp at c3 ⊢; omega)
    clear c3
    have H' := Aside0.mk H
    clear H
    go_enter Try.func51, Try.ntmps51
    go_wp2
    repeat (go_quiet (fail); try go_wp2)
    go_loopg [13] k (fun kq v13 w' => ∃ (x13_1 : Int), v13 = .int .i64 x13_1 ∧ Aside0 (slices_Equal_string_string.l0 kq l0 l1 (l0.length : Int) x13_1 = some r) ∧ Aside0 (kq ≤ k) ∧ Drawn0 w w')
    case atStart => exact ⟨(0), (by first | rfl | (simp; done) | (simp [*]; done)), H', ⟨Nat.le_refl _⟩, by repeat (first | exact Drawn0.refl _ | apply Drawn0.step)⟩
    case round =>
      clear H'
      try clear c1
      try clear p2
      try clear c3
      try clear c3b0
      try clear c3b1
      try clear c3b2
      obtain ⟨x13_1, rfl, HA, HK1, ⟨m1, rfl⟩⟩ := hrel
      cases gk with
      | zero => exact absurd HA.out (by simp [slices_Equal_string_string.l0])
      | succ k1 =>
        have H := HA.out
        clear HA
        simp only [slices_Equal_string_string.l0] at H
        by_cases c4 : x13_1 < (l0.length : Int)
        · rw [if_pos c4] at H
          have c4b0 : decide (x13_1 < (l0.length : Int)) = true := decide_eq_true c4
          clear c4
          by_cases c5 : 0 ≤ x13_1
          · rw [if_pos c5] at H
            have c5b0 : decide (0 ≤ x13_1) = true := decide_eq_true c5
            clear c5
            by_cases c6 : x13_1 < (l0.length : Int)
            · rw [if_pos c6] at H
              have c6b0 : decide (x13_1 < (l0.length : Int)) = true := decide_eq_true c6
              clear c6
              by_cases c7 : x13_1 < (l1.length : Int)
              · rw [if_pos c7] at H
                have c7b0 : decide (x13_1 < (l1.length : Int)) = true := decide_eq_true c7
                clear c7
                by_cases c8 : (rdOf ByteArray.empty l0 x13_1).toList = (rdOf ByteArray.empty l1 x13_1).toList
                · rw [if_pos c8] at H
                  have c8b0 : ((rdOf ByteArray.empty l0 x13_1).toList == (rdOf ByteArray.empty l1 x13_1).toList) = true := beq_iff_eq.mpr c8
                  have c8b1 : ((rdOf ByteArray.empty l0 x13_1).toList != (rdOf ByteArray.empty l1 x13_1).toList) = false := bne_eq_false_iff_eq.mpr c8
                  clear c8
                  have H' := Aside0.mk H
                  clear H
                  have p142 : 0 ≤ (x13_1 : Int) := of_decide_eq_true (by first | (with_reducible assumption) | assumption)
                  have q142 : x13_1 < (l0.length : Int) := of_decide_eq_true (by first | (with_reducible assumption) | assumption)
                  obtain ⟨ad142, e142, hx142_0⟩ := Kd.at_string HR0.out x13_1 p142 q142
                  cases e142
                  replace p142 := eq_true p142
                  replace q142 := eq_true q142
                  have p143 : 0 ≤ (x13_1 : Int) := of_decide_eq_true (by first | (with_reducible assumption) | assumption)
                  have q143 : x13_1 < (l1.length : Int) := of_decide_eq_true (by first | (with_reducible assumption) | assumption)
                  obtain ⟨ad143, e143, hx143_0⟩ := Kd.at_string HR1.out x13_1 p143 q143
                  cases e143
                  replace p143 := eq_true p143
                  replace q143 := eq_true q143
                  go_wp2
                  repeat (go_quiet (fail); try go_wp2)
                  go_roundg k1
                  case measure => have := HK1.out; omega
                  case rel => exact ⟨(wrap64 (x13_1 + 1)), (by first | rfl | (simp; done) | (simp [*]; done)), H', ⟨by have := HK1.out; omega⟩, by repeat (first | exact Drawn0.refl _ | apply Drawn0.step)⟩
                · rw [if_neg c8] at H
                  have c8b0 : ((rdOf ByteArray.empty l0 x13_1).toList == (rdOf ByteArray.empty l1 x13_1).toList) = false := beq_eq_false_iff_ne.mpr c8
                  have c8b1 : ((rdOf ByteArray.empty l0 x13_1).toList != (rdOf ByteArray.empty l1 x13_1).toList) = true := bne_iff_ne.mpr c8
                  obtain rfl := Option.some.inj H
                  have p142 : 0 ≤ (x13_1 : Int) := of_decide_eq_true (by first | (with_reducible assumption) | assumption)
                  have q142 : x13_1 < (l0.length : Int) := of_decide_eq_true (by first | (with_reducible assumption) | assumption)
                  obtain ⟨ad142, e142, hx142_0⟩ := Kd.at_string HR0.out x13_1 p142 q142
                  cases e142
                  replace p142 := eq_true p142
                  replace q142 := eq_true q142
                  have p143 : 0 ≤ (x13_1 : Int) := of_decide_eq_true (by first | (with_reducible assumption) | assumption)
                  have q143 : x13_1 < (l1.length : Int) := of_decide_eq_true (by first | (with_reducible assumption) | assumption)
                  obtain ⟨ad143, e143, hx143_0⟩ := Kd.at_string HR1.out x13_1 p143 q143
                  cases e143
                  replace p143 := eq_true p143
                  replace q143 := eq_true q143
                  go_wp2
                  repeat (go_quiet (fail); try go_wp2)
                  go_ret
                  exact ⟨by first | rfl | (simp; done) | (simp [*]; done), by repeat (first | exact Drawn0.refl _ | apply Drawn0.step)⟩
              · rw [if_neg c7] at H
                exact absurd H (by simp)
            · rw [if_neg c6] at H
              exact absurd H (by simp)
          · rw [if_neg c5] at H
            exact absurd H (by simp)
        · rw [if_neg c4] at H
          have c4b0 : decide (x13_1 < (l0.length : Int)) = false := decide_eq_false c4
          clear c4
          obtain rfl := Option.some.inj H
          go_wp2
          repeat (go_quiet (fail); try go_wp2)
          go_ret
          exact ⟨by first | rfl | (simp; done) | (simp [*]; done), by repeat (first | exact Drawn0.refl _ | apply Drawn0.step)⟩
  · rw [if_neg c3] at H
    have c3b0 : ((l0.length : Int) == (l1.length : Int)) = false := beq_eq_false_iff_ne.mpr c3
    have c3b1 : ((l0.length : Int) != (l1.length : Int)) = true := bne_iff_ne.mpr c3
    have c3b2 : (l0.length == l1.length) = false := by first | simpa using c3 | (simp at c3 ⊢; omega)
    obtain rfl := Option.some.inj H
    go_enter Try.func51, Try.ntmps51
    go_wp2
    repeat (go_quiet (fail); try go_wp2)
    go_ret
    exact ⟨by first | rfl | (simp; done) | (simp [*]; done), by repeat (first | exact Drawn0.refl _ | apply Drawn0.step)⟩

end Go.Proofs.Ytchhognpijobcaa.G

/- GKMore -/
/-
  Small words beside the kit's: two lists compared by a test that may lack an answer; a search by halves; several cells stored at once.
-/
namespace Go.Proofs.Ytchhognpijobcaa.G
open Go.RowKit Go.Proofs.YtchhognpijobcaaW.PrintWords Go.Proofs.YtchhognpijobcaaW.PrintLast Go.Proofs.YtchhognpijobcaaW.PrintMore
set_option linter.unusedVariables false

/-- Place by place, by a test that may lack an answer; used at one length. -/
def eqFO {α β : Type} (p : α → β → Option Bool) : List α → List β → Option Bool
  | x :: xs, y :: ys => (p x y).bind fun b => if b then eqFO p xs ys else some false
  | _, _ => some true
def eqFO' {α β : Type} (p : α → β → Option Bool) (xs : List α) (ys : List β) : Option Bool := if xs.length = ys.length then eqFO p xs ys else some false
theorem eqFO_step {α β : Type} {p : α → β → Option Bool} {xs : List α} {ys : List β} {k : Nat} {r : Bool} (hk : k < xs.length) (hk' : k < ys.length) (h : eqFO p (xs.drop k) (ys.drop k) = some r) :
    ∃ b, p xs[k] ys[k] = some b ∧ (b = false → r = false) ∧ (b = true → eqFO p (xs.drop (k + 1)) (ys.drop (k + 1)) = some r) := by
  rw [List.drop_eq_getElem_cons hk, List.drop_eq_getElem_cons hk', eqFO] at h
  cases hp : p xs[k] ys[k] with
  | none => rw [hp] at h; cases h
  | some b =>
    rw [hp] at h
    refine ⟨b, rfl, ?_, ?_⟩
    · rintro rfl; simpa using h.symm
    · rintro rfl; simpa using h
theorem eqFO_end {α β : Type} {p : α → β → Option Bool} {xs : List α} {ys : List β} {r : Bool} {k : Nat} (hk : xs.length ≤ k) (h : eqFO p (xs.drop k) (ys.drop k) = some r) : r = true := by
  rw [List.drop_of_length_le hk] at h
  cases ys.drop k <;> simpa [eqFO] using h.symm
theorem eqFO_mono {α β : Type} {p p' : α → β → Option Bool} (h : ∀ x y, LeO (p x y) (p' x y)) : ∀ (l : List α) (m : List β), LeO (eqFO p l m) (eqFO p' l m)
  | [], _ => by cases ‹List β› <;> exact LeO.refl _
  | _ :: _, [] => LeO.refl _
  | x :: xs, y :: ys => by
    rw [eqFO, eqFO]
    exact LeO.bind (h x y) (fun b => LeO.ite (eqFO_mono h xs ys) (LeO.refl _))
theorem eqFO'_mono {α β : Type} {p p' : α → β → Option Bool} (h : ∀ x y, LeO (p x y) (p' x y)) (l : List α) (m : List β) : LeO (eqFO' p l m) (eqFO' p' l m) := LeO.ite (eqFO_mono h _ _) (LeO.refl _)
end Go.Proofs.Ytchhognpijobcaa.G

/- G52 -/
-- Laid by wip/g/gprint.py out of the translation, by the kit's print program. Lean checks it.
namespace Go.Proofs.Ytchhognpijobcaa.G
open Go.RowKit Go.Proofs.YtchhognpijobcaaW.PrintWords Go.Proofs.YtchhognpijobcaaW.PrintLast Go.Proofs.YtchhognpijobcaaW.PrintMore
attribute [local go_sem] max2_int min2_int max_two min_two max_three min_three max_four min_four   -- for this text's walks alone
set_option linter.unusedVariables false
set_option linter.unusedSimpArgs false

/-! ### slices_EqualFunc_simpl_Value_simpl_Value_impl_Value_impl_Value: function 52 -/
--IMPORT Derived.Test.YtchhognpijobcaaGKMore
set_option maxRecDepth 100000 in
theorem slices_EqualFunc_simpl_Value_simpl_Value_impl_Value_impl_Value.calls {α : Type} (d : Kd α) (hd : d.sz = 5) (kf : Nat) (hkf : ∀ (zs : Array Value) (W : World), (callFunc kf zs).run Try.prog W = .ok (.enter kf zs) W) (caps : Array Value) (p : α → α → Option Bool) (A0 : Option Addr) (c0 : Nat) (l0 : List α) (A1 : Option Addr) (c1 : Nat) (l1 : List α) (r : Bool) (w : World) (hr0 : Kd.C d w A0 l0.length l0) (hc0 : l0.length ≤ c0) (hr1 : Kd.C d w A1 l1.length l1) (hc1 : l1.length ≤ c1)
    (hf : ∀ (x y : α) (cs ds : List Value) (b : Bool) (W : World), p x y = some b → d.K W x cs → d.K W y ds → Below w.heap.size w W → Calls Try.prog kf (#[(.agg (cs).toArray), (.agg (ds).toArray)] ++ caps) W fun e w' => e = .returned (.bool b) ∧ Below W.heap.size W w') (h : eqFO' p l0 l1 = some r) :
    Calls Try.prog 52 #[.slice A0 l0.length c0, .slice A1 l1.length c1, .func (.func kf) #[] caps] w fun e w' => e = .returned (.bool r) ∧ Below w.heap.size w w' := by
  have hm : l0.length ≤ 9223372036854775807 := hr0.2.1
  by_cases hl : l0.length = l1.length
  · rw [eqFO', if_pos hl] at h
    have HR0 := Lib.hid hr0
    have HR1 := Lib.hid hr1
    have HF := Lib.hid hf
    have HH := Lib.hid h
    have HD := Lib.hid hd
    have HL := Lib.hid hl
    have hsl : Value.slice A1 l1.length c1 = .slice A1 l0.length c1 := by rw [hl]
    rw [hsl]
    clear hr0 hr1 hf h hd hl hc1 hsl
    go_enter Try.func52, Try.ntmps52
    go_wp2
    go_loopw [7, 8, 9, 17] (fun _ _ _ i wr => ∃ k : Nat, k ≤ l0.length ∧ i = .int .i64 k ∧ Hid (eqFO p (l0.drop k) (l1.drop k) = some r) ∧ Hid (Below w.heap.size w wr)) (fun _ _ _ i _ => l0.length - (intOf i).toNat)
    case atStart => exact ⟨0, by omega, rfl, HH, Below.refl _ _⟩
    case round =>
      obtain ⟨k, hk, rfl, HE, HB⟩ := hrel
      by_cases hlt : k < l0.length
      · obtain ⟨b, hp, hb1, hb2⟩ := eqFO_step hlt (by have := HL.out; omega) HE.out
        have hlt2 : k < l1.length := by have := HL.out; omega
        have HP := Lib.hid hp
        have B1 := Lib.hid hb1
        have B2 := Lib.hid hb2
        clear hp hb1 hb2
        obtain ⟨ad, cs, rfl, hcs, hK, hcell⟩ := Kd.C_get HR0.out l0[k] (k : Int) (by omega) (by omega)
        obtain ⟨ae, ds, rfl, hds, hK2, hcell2⟩ := Kd.C_get HR1.out l1[k] (k : Int) (by omega) (by omega)
        rw [HD.out] at hcs hcell hds hcell2
        obtain ⟨y0, y1, y2, y3, y4, rfl⟩ : ∃ y0 y1 y2 y3 y4, cs = [y0, y1, y2, y3, y4] := by match cs, hcs with | [y0, y1, y2, y3, y4], _ => exact ⟨y0, y1, y2, y3, y4, rfl⟩
        obtain ⟨z0, z1, z2, z3, z4, rfl⟩ : ∃ z0 z1 z2 z3 z4, ds = [z0, z1, z2, z3, z4] := by match ds, hds with | [z0, z1, z2, z3, z4], _ => exact ⟨z0, z1, z2, z3, z4, rfl⟩
        clear hcs hds
        simp only [Int.toNat_natCast, getD_at hlt] at hK hcell
        simp only [Int.toNat_natCast, getD_at hlt2] at hK2 hcell2
        have hone := d.K_one hK
        have hone2 := d.K_one hK2
        have HK := Lib.hid (d.K_below HB.out hK)
        have HK2 := Lib.hid (d.K_below HB.out hK2)
        clear hK hK2
        have d0 := pw_cell_below HB.out (hcell 0 y0 rfl)
        have e0 := pw_cell_below HB.out (hcell2 0 z0 rfl)
        have s0 := fun (a : Addr) (W : World) (q : Mode) => run_store Try.prog W a y0 q (hone y0 (by simp))
        have r0 := fun (a : Addr) (W : World) (q : Mode) => run_store Try.prog W a z0 q (hone2 z0 (by simp))
        have d1 := pw_cell_below HB.out (hcell 1 y1 rfl)
        have e1 := pw_cell_below HB.out (hcell2 1 z1 rfl)
        have s1 := fun (a : Addr) (W : World) (q : Mode) => run_store Try.prog W a y1 q (hone y1 (by simp))
        have r1 := fun (a : Addr) (W : World) (q : Mode) => run_store Try.prog W a z1 q (hone2 z1 (by simp))
        have d2 := pw_cell_below HB.out (hcell 2 y2 rfl)
        have e2 := pw_cell_below HB.out (hcell2 2 z2 rfl)
        have s2 := fun (a : Addr) (W : World) (q : Mode) => run_store Try.prog W a y2 q (hone y2 (by simp))
        have r2 := fun (a : Addr) (W : World) (q : Mode) => run_store Try.prog W a z2 q (hone2 z2 (by simp))
        have d3 := pw_cell_below HB.out (hcell 3 y3 rfl)
        have e3 := pw_cell_below HB.out (hcell2 3 z3 rfl)
        have s3 := fun (a : Addr) (W : World) (q : Mode) => run_store Try.prog W a y3 q (hone y3 (by simp))
        have r3 := fun (a : Addr) (W : World) (q : Mode) => run_store Try.prog W a z3 q (hone2 z3 (by simp))
        have d4 := pw_cell_below HB.out (hcell 4 y4 rfl)
        have e4 := pw_cell_below HB.out (hcell2 4 z4 rfl)
        have s4 := fun (a : Addr) (W : World) (q : Mode) => run_store Try.prog W a y4 q (hone y4 (by simp))
        have r4 := fun (a : Addr) (W : World) (q : Mode) => run_store Try.prog W a z4 q (hone2 z4 (by simp))
        clear hcell hcell2 hone hone2
        simp only [Nat.add_zero, Nat.mul_one] at d0 e0
        rw [add_field _ _ 1 (by omega)] at d1 e1
        rw [add_field _ _ 2 (by omega)] at d2 e2
        rw [add_field _ _ 3 (by omega)] at d3 e3
        rw [add_field _ _ 4 (by omega)] at d4 e4
        have f0 := fun (o_ : Obj) => Lib.cell?_alloc_some o_ e0
        have f1 := fun (o_ : Obj) => Lib.cell?_alloc_some o_ e1
        have f2 := fun (o_ : Obj) => Lib.cell?_alloc_some o_ e2
        have f3 := fun (o_ : Obj) => Lib.cell?_alloc_some o_ e3
        have f4 := fun (o_ : Obj) => Lib.cell?_alloc_some o_ e4
        have HW := Lib.hid (below_alloc (below_alloc (Below.refl wr.heap.size wr) (.cells #[y0, y1, y2, y3, y4] 30)) (.cells #[z0, z1, z2, z3, z4] 30))
        have HX := Lib.hid (below_trans HB.out HW.out)
        cases b
        · have B3 := Lib.hid (B1.out rfl)
          clear B1 B2
          go_wp2_with fail
          refine (HF.out l0[k] l1[k] _ _ _ _ HP.out (d.K_below HW.out HK.out) (d.K_below HW.out HK2.out) HX.out).mono ?_
          rintro e w' ⟨rfl, hbx⟩
          have HB2 := hid_below HX hbx
          clear hbx
          go_wp2
          go_ret
          obtain rfl := B3.out
          exact ⟨rfl, HB2.out⟩
        · have B3 := Lib.hid (B2.out rfl)
          clear B1 B2
          go_wp2_with fail
          refine (HF.out l0[k] l1[k] _ _ _ _ HP.out (d.K_below HW.out HK.out) (d.K_below HW.out HK2.out) HX.out).mono ?_
          rintro e w' ⟨rfl, hbx⟩
          have HB2 := hid_below HX hbx
          clear hbx
          go_wp2
          go_roundw
          case rel => exact ⟨k + 1, by omega, by go_num, B3, HB2⟩
          case measure => simp [intOf]; omega
      · obtain rfl : k = l0.length := by omega
        go_wp2
        go_ret
        obtain rfl := eqFO_end (Nat.le_refl _) HE.out
        exact ⟨rfl, HB.out⟩
  · rw [eqFO', if_neg hl] at h
    cases h
    have hne : ¬ ((l0.length : Int) = (l1.length : Int)) := by omega
    clear hr0 hr1 hf
    go_enter Try.func52, Try.ntmps52
    go_wp2
    go_ret
    exact ⟨rfl, Below.refl _ _⟩

end Go.Proofs.Ytchhognpijobcaa.G

/- G15 -/
-- Laid by wip/g/gprint.py out of the translation, by the kit's print program. Lean checks it.
namespace Go.Proofs.Ytchhognpijobcaa.G
open Go.RowKit Go.Proofs.YtchhognpijobcaaW.PrintWords Go.Proofs.YtchhognpijobcaaW.PrintLast Go.Proofs.YtchhognpijobcaaW.PrintMore
attribute [local go_sem] max2_int min2_int max_two min_two max_three min_three max_four min_four   -- for this text's walks alone
set_option linter.unusedVariables false
set_option linter.unusedSimpArgs false

/-! ### impl_SameValue: function 15 -/
--IMPORT Derived.Test.YtchhognpijobcaaGKMore
def impl_SameValue.g (k : Nat) (rec_ : S30 → S30 → Option Bool) (a0 : Int) (a1 : ByteArray) (a2 : Int) (a3 : List ByteArray) (a4 : List S30) (b0 : Int) (b1 : ByteArray) (b2 : Int) (b3 : List ByteArray) (b4 : List S30) : Option Bool :=
  if a0 = b0 then (if a1.toList = b1.toList then (if a2 = b2 then ((slices_Equal_string_string.f k a3 b3).bind fun t => if t = true then eqFO' rec_ a4 b4 else some false) else some false) else some false) else some false
def impl_SameValue.f : Nat → Int → ByteArray → Int → List ByteArray → List S30 → Int → ByteArray → Int → List ByteArray → List S30 → Option Bool
  | 0, _, _, _, _, _, _, _, _, _, _ => none
  | k + 1, a0, a1, a2, a3, a4, b0, b1, b2, b3, b4 => impl_SameValue.g k (fun x y => impl_SameValue.f k x.f0 x.f1 x.f2 x.f3 x.f4 y.f0 y.f1 y.f2 y.f3 y.f4) a0 a1 a2 a3 a4 b0 b1 b2 b3 b4
theorem impl_SameValue.mono : ∀ (a0 : Int) (a1 : ByteArray) (a2 : Int) (a3 : List ByteArray) (a4 : List S30) (b0 : Int) (b1 : ByteArray) (b2 : Int) (b3 : List ByteArray) (b4 : List S30) (k : Nat), LeO (impl_SameValue.f k a0 a1 a2 a3 a4 b0 b1 b2 b3 b4) (impl_SameValue.f (k + 1) a0 a1 a2 a3 a4 b0 b1 b2 b3 b4) := by
  have key : ∀ (k : Nat) (a0 : Int) (a1 : ByteArray) (a2 : Int) (a3 : List ByteArray) (a4 : List S30) (b0 : Int) (b1 : ByteArray) (b2 : Int) (b3 : List ByteArray) (b4 : List S30), LeO (impl_SameValue.f k a0 a1 a2 a3 a4 b0 b1 b2 b3 b4) (impl_SameValue.f (k + 1) a0 a1 a2 a3 a4 b0 b1 b2 b3 b4) := by
    intro k
    induction k with
    | zero => intros; exact LeO.none _
    | succ k ih =>
      intro a0 a1 a2 a3 a4 b0 b1 b2 b3 b4
      rw [impl_SameValue.f, impl_SameValue.f, impl_SameValue.g, impl_SameValue.g]
      exact LeO.ite (LeO.ite (LeO.ite (LeO.bind (slices_Equal_string_string.mono _ _ _) (fun t => LeO.ite (eqFO'_mono (fun x y => ih _ _ _ _ _ _ _ _ _ _) _ _) (LeO.refl _))) (LeO.refl _)) (LeO.refl _)) (LeO.refl _)
  intro a0 a1 a2 a3 a4 b0 b1 b2 b3 b4 k
  exact key k _ _ _ _ _ _ _ _ _ _
theorem impl_SameValue.calls (k : Nat) : ∀ (a0 : Int) (a1 : ByteArray) (a2 : Int) (A3 : Option Addr) (c3 : Nat) (a3 : List ByteArray) (A4 : Option Addr) (c4 : Nat) (a4 : List S30) (b0 : Int) (b1 : ByteArray) (b2 : Int) (B3 : Option Addr) (e3 : Nat) (b3 : List ByteArray) (B4 : Option Addr) (e4 : Nat) (b4 : List S30) (r : Bool) (w : World)
    (hr3 : Kd.C Kd.string w A3 a3.length a3) (hc3 : a3.length ≤ c3) (hr4 : Kd.C k30 w A4 a4.length a4) (hc4 : a4.length ≤ c4) (hs3 : Kd.C Kd.string w B3 b3.length b3) (he3 : b3.length ≤ e3) (hs4 : Kd.C k30 w B4 b4.length b4) (he4 : b4.length ≤ e4) (h : impl_SameValue.f k a0 a1 a2 a3 a4 b0 b1 b2 b3 b4 = some r),
    Calls Try.prog 15 #[.agg #[.int .i64 a0, .string a1, .int .i64 a2, .slice A3 a3.length c3, .slice A4 a4.length c4], .agg #[.int .i64 b0, .string b1, .int .i64 b2, .slice B3 b3.length e3, .slice B4 b4.length e4]] w fun e w' => e = .returned (.bool r) ∧ Below w.heap.size w w' := by
  induction k with
  | zero => intro a0 a1 a2 A3 c3 a3 A4 c4 a4 b0 b1 b2 B3 e3 b3 B4 e4 b4 r w _ _ _ _ _ _ _ _ h; exact absurd h (by simp [impl_SameValue.f])
  | succ k ih =>
  intro a0 a1 a2 A3 c3 a3 A4 c4 a4 b0 b1 b2 B3 e3 b3 B4 e4 b4 r w hr3 hc3 hr4 hc4 hs3 he3 hs4 he4 h
  rw [impl_SameValue.f, impl_SameValue.g] at h
  have HB := Lib.hid (below_alloc (below_alloc (Below.refl w.heap.size w) (.cells #[.int .i64 a0, .string a1, .int .i64 a2, .slice A3 a3.length c3, .slice A4 a4.length c4] 30)) (.cells #[.int .i64 b0, .string b1, .int .i64 b2, .slice B3 b3.length e3, .slice B4 b4.length e4] 30))
  have HR3 := Lib.hid (Kd.C_below hr3 HB.out)
  have HR4 := Lib.hid (Kd.C_below hr4 HB.out)
  have HS3 := Lib.hid (Kd.C_below hs3 HB.out)
  have HS4 := Lib.hid (Kd.C_below hs4 HB.out)
  have IH := Lib.hid ih
  clear hr3 hr4 hs3 hs4 ih
  by_cases c0 : a0 = b0
  · subst c0
    by_cases c1 : a1.toList = b1.toList
    · by_cases c2 : a2 = b2
      · subst c2
        rw [if_pos rfl, if_pos c1, if_pos rfl] at h
        obtain ⟨t, ht, h⟩ := bind_some' h
        have HT := Lib.hid ht
        clear ht
        cases t with
        | false =>
          rw [if_neg Bool.false_ne_true] at h
          cases h
          go_enter Try.func15, Try.ntmps15
          go_wp2_with fail
          refine (slices_Equal_string_string.calls k A3 c3 a3 B3 e3 b3 false _ HR3.out hc3 HS3.out he3 HT.out).mono ?_
          rintro e w2 ⟨rfl, hb2⟩
          have HB2 := Lib.hid (below_trans HB.out hb2.below)
          clear hb2
          go_wp2
          go_ret
          exact ⟨rfl, HB2.out⟩
        | true =>
          rw [if_pos rfl] at h
          have HH := Lib.hid h
          clear h
          go_enter Try.func15, Try.ntmps15
          go_wp2_with fail
          refine (slices_Equal_string_string.calls k A3 c3 a3 B3 e3 b3 true _ HR3.out hc3 HS3.out he3 HT.out).mono ?_
          rintro e w2 ⟨rfl, hb2⟩
          obtain ⟨nq, rfl⟩ := hb2
          have HB2 := Lib.hid (pw_below_drewN HB.out nq)
          have HD4 := Lib.hid (Kd.C_drewN HR4.out nq)
          have HE4 := Lib.hid (Kd.C_drewN HS4.out nq)
          go_wp2_with fail
          refine (slices_EqualFunc_simpl_Value_simpl_Value_impl_Value_impl_Value.calls k30 rfl 15 (fun _ _ => by kernel_rfl) #[] _ A4 c4 a4 B4 e4 b4 r _ HD4.out hc4 HE4.out he4 ?_ HH.out).mono ?_
          · intro x y cs ds b W hp hk hk2 hb
            obtain ⟨X3, x3, X4, x4, rfl, l3, q3, l4, q4⟩ := k30_open hk
            obtain ⟨Y3, y3, Y4, y4, rfl, m3, p3, m4, p4⟩ := k30_open hk2
            exact IH.out _ _ _ X3 x3 _ X4 x4 _ _ _ _ Y3 y3 _ Y4 y4 _ b W q3 l3 q4 l4 p3 m3 p4 m4 hp
          · rintro e w3 ⟨rfl, hb3⟩
            have HB3 := Lib.hid (below_trans HB2.out hb3)
            clear hb3
            go_wp2
            go_ret
            exact ⟨rfl, HB3.out⟩
      · rw [if_pos rfl, if_pos c1, if_neg c2] at h
        cases h
        go_enter Try.func15, Try.ntmps15
        go_wp2
        go_ret
        exact ⟨rfl, HB.out⟩
    · rw [if_pos rfl, if_neg c1] at h
      cases h
      go_enter Try.func15, Try.ntmps15
      go_wp2
      go_ret
      exact ⟨rfl, HB.out⟩
  · rw [if_neg c0] at h
    cases h
    go_enter Try.func15, Try.ntmps15
    go_wp2
    go_ret
    exact ⟨rfl, HB.out⟩

end Go.Proofs.Ytchhognpijobcaa.G

/- PSame -/
/-
  SameValue, the reference's and the program's: both tell whether two values are one and the same.
-/
namespace Go.Proofs.Ytchhognpijobcaa.G
open Go.RowKit Go.Proofs.YtchhognpijobcaaW.PrintWords Go.Proofs.YtchhognpijobcaaW.PrintLast Go.Proofs.YtchhognpijobcaaW.PrintMore
set_option linter.unusedVariables false
theorem bytes_eq {a b : ByteArray} : a.toList = b.toList ↔ a = b := by
  constructor
  · intro h
    rw [ByteArray.toList_eq, ByteArray.toList_eq] at h
    obtain ⟨⟨x⟩⟩ := a
    obtain ⟨⟨y⟩⟩ := b
    have h : x = y := h
    rw [h]
  · rintro rfl; rfl
theorem val_eq {a b : IVal} : a = b ↔ a.f0 = b.f0 ∧ a.f1 = b.f1 ∧ a.f2 = b.f2 ∧ a.f3 = b.f3 ∧ a.f4 = b.f4 := by
  obtain ⟨a0, a1, a2, a3, a4⟩ := a
  obtain ⟨b0, b1, b2, b3, b4⟩ := b
  constructor
  · intro h; injection h with h0 h1 h2 h3 h4; exact ⟨h0, h1, h2, h3, h4⟩
  · rintro ⟨h0, h1, h2, h3, h4⟩
    have h0 : a0 = b0 := h0
    have h1 : a1 = b1 := h1
    have h2 : a2 = b2 := h2
    have h3 : a3 = b3 := h3
    have h4 : a4 = b4 := h4
    rw [h0, h1, h2, h3, h4]
open Classical in
/-- Whether two are one, as a Bool. -/
noncomputable def same {α : Type} (a b : α) : Bool := decide (a = b)
theorem same_true {α : Type} {a b : α} : same a b = true ↔ a = b := by unfold same; simp
theorem same_false {α : Type} {a b : α} : same a b = false ↔ a ≠ b := by unfold same; simp
theorem same_self {α : Type} (a : α) : same a a = true := same_true.2 rfl
theorem lists_eq {α : Type} {xs ys : List α} (hl : xs.length = ys.length) (h : ∀ i (h1 : i < xs.length) (h2 : i < ys.length), xs[i] = ys[i]) : xs = ys := List.ext_getElem hl h
theorem allN_false {n : Nat} {ok : Nat → Bool} (h : ¬ ∀ i, i < n → ok i = true) : allN n ok = false := by
  rw [← Bool.not_eq_true, allN_true]; exact h
theorem strs_all {xs ys : List ByteArray} (hl : xs.length = ys.length) : allN xs.length (fun i => decide ((rdOf ByteArray.empty xs (i : Nat)).toList = (rdOf ByteArray.empty ys (i : Nat)).toList)) = same xs ys := by
  rw [Bool.eq_iff_iff, allN_true, same_true]
  constructor
  · intro h
    refine lists_eq hl (fun i h1 h2 => ?_)
    have := of_decide_eq_true (h i h1)
    rw [rdS h1, rdS h2] at this
    exact bytes_eq.1 this
  · rintro rfl i hi
    exact decide_eq_true rfl
theorem eqStrs_ev (xs ys : List ByteArray) (hm : xs.length ≤ 9223372036854775807) : Ev (fun k => slices_Equal_string_string.f k xs ys) (same xs ys) := by
  unfold slices_Equal_string_string.f
  by_cases hl : xs.length = ys.length
  · refine ev_if_pos (by omega) ?_
    have := loop_all (g := fun k i => slices_Equal_string_string.l0 k xs ys xs.length i) xs.length (fun i => decide ((rdOf ByteArray.empty xs (i : Nat)).toList = (rdOf ByteArray.empty ys (i : Nat)).toList)) true ?_ ?_ ?_
    · rw [Bool.and_true, strs_all hl] at this; exact this
    · intro i hi hok r hr
      refine Ev.step (fun k => by rw [slices_Equal_string_string.l0]) ?_
      simp only [wsucc hi hm]
      exact ev_if_pos (by omega) (ev_if_pos (by omega) (ev_if_pos (by omega) (ev_if_pos (by omega) (ev_if_pos (of_decide_eq_true hok) hr))))
    · intro i hi hok
      exact Ev.step (fun k => by rw [slices_Equal_string_string.l0]) (ev_if_pos (by omega) (ev_if_pos (by omega) (ev_if_pos (by omega) (ev_if_pos (by omega) (ev_if_neg (of_decide_eq_false hok) (Ev.now _))))))
    · exact Ev.step (fun k => by rw [slices_Equal_string_string.l0]) (ev_if_neg (by omega) (Ev.now _))
  · rw [same_false.2 (fun h => hl (by rw [h]))]
    exact ev_if_neg (by omega) (Ev.now _)
theorem eqFO_ev {α : Type} {p : Nat → α → α → Option Bool} : ∀ (xs ys : List α), (∀ x ∈ xs, ∀ y ∈ ys, Ev (fun k => p k x y) (same x y)) → xs.length = ys.length → Ev (fun k => eqFO (p k) xs ys) (same xs ys)
  | [], [], _, _ => by rw [same_self]; exact Ev.now _
  | [], _ :: _, _, h => by simp at h
  | _ :: _, [], _, h => by simp at h
  | x :: xs, y :: ys, h, hl => by
    have h1 := h x (by simp) y (by simp)
    have h2 := eqFO_ev xs ys (fun a ha b hb => h a (by simp [ha]) b (by simp [hb])) (by simpa using hl)
    refine Ev.congr (fun k => by rw [eqFO]) (Ev.bind (f := fun k b => if b = true then eqFO (p k) xs ys else some false) h1 ?_)
    by_cases c : x = y
    · rw [c, same_self]
      refine ev_if_pos rfl (ev_rw h2 ?_)
      rw [Bool.eq_iff_iff, same_true, same_true]; simp
    · rw [same_false.2 c, same_false.2 (fun e => c (by injection e))]
      exact ev_if_neg (by simp) (Ev.now _)
theorem kids_all {xs ys : List IVal} (hl : xs.length = ys.length) : allN xs.length (fun i => same (rd_T30 xs (i : Nat)) (rd_T30 ys (i : Nat))) = same xs ys := by
  rw [Bool.eq_iff_iff, allN_true, same_true]
  constructor
  · intro h
    refine lists_eq hl (fun i h1 h2 => ?_)
    have := same_true.1 (h i h1)
    rw [rdIV h1, rdIV h2] at this
    exact this
  · rintro rfl i hi
    exact same_self _
theorem specSame_ev : ∀ (n : Nat) (a b : IVal), SmI n a → Ev (fun k => spec_SameValue.f k a.f0 a.f1 a.f2 a.f3 a.f4 b.f0 b.f1 b.f2 b.f3 b.f4) (same a b)
  | 0, a, b, h => by rw [SmI] at h; exact h.elim
  | n + 1, a, b, h => by
    rw [SmI] at h
    obtain ⟨_, _, hk, hl, hs⟩ := h
    have no : ∀ c : Bool, c = true → a ≠ b → Ev (fun k => spec_SameValue.j0 k c a.f0 a.f1 a.f2 a.f3 a.f4 b.f0 b.f1 b.f2 b.f3 b.f4) (same a b) := fun c hc hne => by
      rw [same_false.2 hne]
      exact Ev.step (fun k => by rw [spec_SameValue.j0]) (ev_if_pos hc (Ev.now _))
    refine Ev.step (fun k => by rw [spec_SameValue.f]) ?_
    by_cases c0 : a.f0 = b.f0
    · refine ev_if_pos c0 ?_
      by_cases c1 : a.f1.toList = b.f1.toList
      · refine ev_if_pos c1 ?_
        by_cases c2 : a.f2 = b.f2
        · refine ev_if_pos c2 ?_
          by_cases c3 : a.f3.length = b.f3.length
          · refine ev_if_pos (by omega) ?_
            by_cases c4 : a.f4.length = b.f4.length
            · refine Ev.step (fun k => by rw [spec_SameValue.j0]) (ev_if_neg (by simp; omega) ?_)
              have l1 := loop_all (g := fun k i => spec_SameValue.l1 k i a.f0 a.f1 a.f2 a.f3 a.f4 b.f0 b.f1 b.f2 b.f3 b.f4) a.f4.length (fun i => same (rd_T30 a.f4 (i : Nat)) (rd_T30 b.f4 (i : Nat))) true ?_ ?_ ?_
              · rw [Bool.and_true, kids_all c4] at l1
                have l0 := loop_all (g := fun k i => spec_SameValue.l0 k i a.f0 a.f1 a.f2 a.f3 a.f4 b.f0 b.f1 b.f2 b.f3 b.f4) a.f3.length (fun i => decide ((rdOf ByteArray.empty a.f3 (i : Nat)).toList = (rdOf ByteArray.empty b.f3 (i : Nat)).toList)) (same a.f4 b.f4) ?_ ?_ ?_
                · rw [strs_all c3] at l0
                  refine ev_rw l0 ?_
                  rw [Bool.eq_iff_iff, Bool.and_eq_true, same_true, same_true, same_true, val_eq]
                  exact ⟨fun h => ⟨c0, bytes_eq.1 c1, c2, h.1, h.2⟩, fun h => h.2.2.2⟩
                · intro i hi hok r hr
                  refine Ev.step (fun k => by rw [spec_SameValue.l0]) ?_
                  simp only [wsucc hi (by omega : a.f3.length ≤ 9223372036854775807)]
                  exact ev_if_pos (by omega) (ev_if_pos (by omega) (ev_if_pos (by omega) (ev_if_pos (of_decide_eq_true hok) hr)))
                · intro i hi hok
                  exact Ev.step (fun k => by rw [spec_SameValue.l0]) (ev_if_pos (by omega) (ev_if_pos (by omega) (ev_if_pos (by omega) (ev_if_neg (of_decide_eq_false hok) (Ev.now _)))))
                · exact Ev.step (fun k => by rw [spec_SameValue.l0]) (ev_if_neg (by omega) l1)
              · intro i hi hok r hr
                refine Ev.step (fun k => by rw [spec_SameValue.l1]) ?_
                simp only [wsucc hi (by omega : a.f4.length ≤ 9223372036854775807)]
                refine ev_if_pos (by omega) (ev_if_pos (by omega) (ev_if_pos (by omega) (Ev.bind (specSame_ev n (rd_T30 a.f4 (i : Nat)) (rd_T30 b.f4 (i : Nat)) (by rw [rdIV hi]; exact hs _ (List.getElem_mem hi))) ?_)))
                exact ev_if_pos hok hr
              · intro i hi hok
                refine Ev.step (fun k => by rw [spec_SameValue.l1]) ?_
                refine ev_if_pos (by omega) (ev_if_pos (by omega) (ev_if_pos (by omega) (Ev.bind (specSame_ev n (rd_T30 a.f4 (i : Nat)) (rd_T30 b.f4 (i : Nat)) (by rw [rdIV hi]; exact hs _ (List.getElem_mem hi))) ?_)))
                exact ev_if_neg (by rw [hok]; simp) (Ev.now _)
              · exact Ev.step (fun k => by rw [spec_SameValue.l1]) (ev_if_neg (by omega) (Ev.now _))
            · exact no _ (by simp; omega) (fun e => c4 (by rw [e]))
          · exact ev_if_neg (by omega) (no _ rfl (fun e => c3 (by rw [e])))
        · exact ev_if_neg c2 (no _ rfl (fun e => c2 (by rw [e])))
      · exact ev_if_neg c1 (no _ rfl (fun e => c1 (by rw [e])))
    · exact ev_if_neg c0 (no _ rfl (fun e => c0 (by rw [e])))
theorem implSame_ev : ∀ (n : Nat) (a b : IVal), SmI n a → Ev (fun k => impl_SameValue.f k a.f0 a.f1 a.f2 a.f3 a.f4 b.f0 b.f1 b.f2 b.f3 b.f4) (same a b)
  | 0, a, b, h => by rw [SmI] at h; exact h.elim
  | n + 1, a, b, h => by
    rw [SmI] at h
    obtain ⟨_, _, hk, hl, hs⟩ := h
    refine Ev.step (fun k => by rw [impl_SameValue.f, impl_SameValue.g]) ?_
    by_cases c0 : a.f0 = b.f0
    · refine ev_if_pos c0 ?_
      by_cases c1 : a.f1.toList = b.f1.toList
      · refine ev_if_pos c1 ?_
        by_cases c2 : a.f2 = b.f2
        · refine ev_if_pos c2 (Ev.bind (eqStrs_ev a.f3 b.f3 (by omega)) ?_)
          by_cases c3 : a.f3 = b.f3
          · rw [c3, same_self]
            refine ev_if_pos rfl ?_
            unfold eqFO'
            by_cases c4 : a.f4.length = b.f4.length
            · refine ev_if_pos c4 (ev_rw (eqFO_ev a.f4 b.f4 (fun x hx y _ => implSame_ev n x y (hs x hx)) c4) ?_)
              rw [Bool.eq_iff_iff, same_true, same_true, val_eq]
              exact ⟨fun h => ⟨c0, bytes_eq.1 c1, c2, c3, h⟩, fun h => h.2.2.2.2⟩
            · rw [same_false.2 (fun e => c4 (by rw [e]))]
              exact ev_if_neg c4 (Ev.now _)
          · rw [same_false.2 c3, same_false.2 (fun e => c3 (by rw [e]))]
            exact ev_if_neg (by simp) (Ev.now _)
        · rw [same_false.2 (fun e => c2 (by rw [e]))]; exact ev_if_neg c2 (Ev.now _)
      · rw [same_false.2 (fun e => c1 (by rw [e]))]; exact ev_if_neg c1 (Ev.now _)
    · rw [same_false.2 (fun e => c0 (by rw [e]))]; exact ev_if_neg c0 (Ev.now _)
end Go.Proofs.Ytchhognpijobcaa.G
