import Derived.Test.YtmoiacijklkfaaaMFnExactBaseOk10
import Derived.Test.YtmoiacijklkfaaaMFnExactBaseOk1
import Derived.Lib.Bytealg
import Derived.Test.YtmoiacijklkfaaaShelf
/- POrder -/
/-
  The order of texts; a search by halves where what is less stands ahead.
-/
namespace Go.Proofs.Ytmoiacijklkfaaa.G
open Go.RowKit Go.Proofs.YtmoiacijklkfaaaW.PrintWords Go.Proofs.YtmoiacijklkfaaaW.PrintLast Go.Proofs.YtmoiacijklkfaaaW.PrintMore
set_option linter.unusedVariables false
set_option linter.unusedSimpArgs false
theorem cmp_neg : ∀ (a b : List UInt8), (Lib.compareBytes a b < 0) ↔ Op.bytesLess a b = true
  | [], [] => by simp [Lib.compareBytes, Op.bytesLess]
  | [], _ :: _ => by simp [Lib.compareBytes, Op.bytesLess]
  | _ :: _, [] => by simp [Lib.compareBytes, Op.bytesLess]
  | a :: x, b :: y => by
    simp only [Lib.compareBytes, Op.bytesLess, Bool.or_eq_true, decide_eq_true_eq, Bool.and_eq_true, beq_iff_eq]
    by_cases h1 : a < b
    · simp [h1]
    · by_cases h2 : b < a
      · have : ¬ a = b := by rintro rfl; exact h1 h2
        simp [h1, h2, this]
      · have : a = b := by rw [UInt8.lt_iff_toNat_lt] at h1 h2; exact UInt8.toNat_inj.1 (by omega)
        subst this
        simp [h1, cmp_neg x y]
/-! ### a search by halves -/
end Go.Proofs.Ytmoiacijklkfaaa.G

/- G146 -/
-- Laid by wip/g/gprint.py out of the translation, by the kit's print program. Lean checks it.
namespace Go.Proofs.Ytmoiacijklkfaaa.G
open Go.RowKit Go.Proofs.YtmoiacijklkfaaaW.PrintWords Go.Proofs.YtmoiacijklkfaaaW.PrintLast Go.Proofs.YtmoiacijklkfaaaW.PrintMore
attribute [local go_sem] max2_int min2_int max_two min_two max_three min_three max_four min_four   -- for this text's walks alone
set_option linter.unusedVariables false
set_option linter.unusedSimpArgs false

/-! ### strings_Compare: function 146 -/
--IMPORT Derived.Test.YtmoiacijklkfaaaShelf
def strings_Compare.f (a0 : ByteArray) (a1 : ByteArray) : Option Int := some (Lib.compareBytes a0.data.toList a1.data.toList)
theorem strings_Compare.calls (a0 : ByteArray) (a1 : ByteArray) (r : Int) (w : World) (h : strings_Compare.f a0 a1 = some r) :
    Calls Try.prog 146 #[.string a0, .string a1] w fun e w' => e = .returned (.int .i64 r) ∧ Drawn0 w w' := by
  obtain rfl := Option.some.inj h
  refine (Try.strings_Compare a0 a1 w).mono ?_
  rintro e w' ⟨rfl, rfl⟩
  exact ⟨rfl, Drawn0.refl _⟩

end Go.Proofs.Ytmoiacijklkfaaa.G

/- G126 -/
-- Laid by wip/g/gprint.py out of the translation, by the kit's print program. Lean checks it.
namespace Go.Proofs.Ytmoiacijklkfaaa.G
open Go.RowKit Go.Proofs.YtmoiacijklkfaaaW.PrintWords Go.Proofs.YtmoiacijklkfaaaW.PrintLast Go.Proofs.YtmoiacijklkfaaaW.PrintMore
attribute [local go_sem] max2_int min2_int max_two min_two max_three min_three max_four min_four   -- for this text's walks alone
set_option linter.unusedVariables false
set_option linter.unusedSimpArgs false

/-! ### slices_IndexFunc_simpl_Obj_impl_Obj: function 126 -/
set_option maxRecDepth 100000 in
theorem slices_IndexFunc_simpl_Obj_impl_Obj.calls {α : Type} (d : Kd α) (hd : d.sz = 17) (kf : Nat) (hkf : ∀ (zs : Array Value) (W : World), (callFunc kf zs).run Try.prog W = .ok (.enter kf zs) W) (caps : Array Value) (p : α → Option Bool) (A0 : Option Addr) (c0 : Nat) (l0 : List α) (r : Int) (w : World) (hr0 : Kd.C d w A0 l0.length l0) (hc0 : l0.length ≤ c0)
    (hf : ∀ (x : α) (cs : List Value) (b : Bool) (W : World), x ∈ l0 → p x = some b → d.K W x cs → Below w.heap.size w W → Calls Try.prog kf (#[(.agg (cs).toArray)] ++ caps) W fun e w' => e = .returned (.bool b) ∧ Below W.heap.size W w') (h : idxO p l0 0 = some r) :
    Calls Try.prog 126 #[.slice A0 l0.length c0, .func (.func kf) #[] caps] w fun e w' => e = .returned (.int .i64 r) ∧ Below w.heap.size w w' := by
  have hm : l0.length ≤ 9223372036854775807 := hr0.2.1
  have HR := Lib.hid hr0
  have HF := Lib.hid hf
  have HH := Lib.hid h
  have HD := Lib.hid hd
  clear hr0 hf h hd
  go_enter Try.func126, Try.ntmps126
  go_wp2
  go_loopw [5, 8] (fun _ i wr => ∃ k : Nat, k ≤ l0.length ∧ i = .int .i64 k ∧ Hid (idxO p (l0.drop k) k = some r) ∧ Hid (Below w.heap.size w wr)) (fun _ i _ => l0.length - (intOf i).toNat)
  case atStart => exact ⟨0, by omega, rfl, HH, Below.refl _ _⟩
  case round =>
    obtain ⟨k, hk, rfl, HE, HB⟩ := hrel
    by_cases hlt : k < l0.length
    · obtain ⟨b, hp, hb1, hb2⟩ := idxO_step hlt HE.out
      have HP := Lib.hid hp
      have B1 := Lib.hid hb1
      have B2 := Lib.hid hb2
      clear hp hb1 hb2
      obtain ⟨ad, cs, rfl, hcs, hK, hcell⟩ := Kd.C_get HR.out l0[k] (k : Int) (by omega) (by omega)
      rw [HD.out] at hcs hcell
      obtain ⟨y0, y1, y2, y3, y4, y5, y6, y7, y8, y9, y10, y11, y12, y13, y14, y15, y16, rfl⟩ : ∃ y0 y1 y2 y3 y4 y5 y6 y7 y8 y9 y10 y11 y12 y13 y14 y15 y16, cs = [y0, y1, y2, y3, y4, y5, y6, y7, y8, y9, y10, y11, y12, y13, y14, y15, y16] := by match cs, hcs with | [y0, y1, y2, y3, y4, y5, y6, y7, y8, y9, y10, y11, y12, y13, y14, y15, y16], _ => exact ⟨y0, y1, y2, y3, y4, y5, y6, y7, y8, y9, y10, y11, y12, y13, y14, y15, y16, rfl⟩
      clear hcs
      simp only [Int.toNat_natCast, getD_at hlt] at hK hcell
      have HK := Lib.hid (d.K_below HB.out hK)
      clear hK
      have d0 := pw_cell_below HB.out (hcell 0 y0 rfl)
      have d1 := pw_cell_below HB.out (hcell 1 y1 rfl)
      have d2 := pw_cell_below HB.out (hcell 2 y2 rfl)
      have d3 := pw_cell_below HB.out (hcell 3 y3 rfl)
      have d4 := pw_cell_below HB.out (hcell 4 y4 rfl)
      have d5 := pw_cell_below HB.out (hcell 5 y5 rfl)
      have d6 := pw_cell_below HB.out (hcell 6 y6 rfl)
      have d7 := pw_cell_below HB.out (hcell 7 y7 rfl)
      have d8 := pw_cell_below HB.out (hcell 8 y8 rfl)
      have d9 := pw_cell_below HB.out (hcell 9 y9 rfl)
      have d10 := pw_cell_below HB.out (hcell 10 y10 rfl)
      have d11 := pw_cell_below HB.out (hcell 11 y11 rfl)
      have d12 := pw_cell_below HB.out (hcell 12 y12 rfl)
      have d13 := pw_cell_below HB.out (hcell 13 y13 rfl)
      have d14 := pw_cell_below HB.out (hcell 14 y14 rfl)
      have d15 := pw_cell_below HB.out (hcell 15 y15 rfl)
      have d16 := pw_cell_below HB.out (hcell 16 y16 rfl)
      clear hcell
      simp only [Nat.add_zero, Nat.mul_one] at d0
      rw [add_field _ _ 1 (by omega)] at d1
      rw [add_field _ _ 2 (by omega)] at d2
      rw [add_field _ _ 3 (by omega)] at d3
      rw [add_field _ _ 4 (by omega)] at d4
      rw [add_field _ _ 5 (by omega)] at d5
      rw [add_field _ _ 6 (by omega)] at d6
      rw [add_field _ _ 7 (by omega)] at d7
      rw [add_field _ _ 8 (by omega)] at d8
      rw [add_field _ _ 9 (by omega)] at d9
      rw [add_field _ _ 10 (by omega)] at d10
      rw [add_field _ _ 11 (by omega)] at d11
      rw [add_field _ _ 12 (by omega)] at d12
      rw [add_field _ _ 13 (by omega)] at d13
      rw [add_field _ _ 14 (by omega)] at d14
      rw [add_field _ _ 15 (by omega)] at d15
      rw [add_field _ _ 16 (by omega)] at d16
      cases b
      · have B3 := Lib.hid (B2.out rfl)
        clear B1 B2
        go_wp2_with fail
        refine (HF.out l0[k] _ _ _ (List.getElem_mem hlt) HP.out HK.out HB.out).mono ?_
        rintro e w' ⟨rfl, hbx⟩
        have HB2 := hid_below HB hbx
        clear hbx
        go_wp2
        go_roundw
        case rel => exact ⟨k + 1, by omega, by go_num, B3, HB2⟩
        case measure => simp [intOf]; omega
      · have B3 := Lib.hid (B1.out rfl)
        clear B1 B2
        go_wp2_with fail
        refine (HF.out l0[k] _ _ _ (List.getElem_mem hlt) HP.out HK.out HB.out).mono ?_
        rintro e w' ⟨rfl, hbx⟩
        have HB2 := hid_below HB hbx
        clear hbx
        go_wp2
        go_ret
        obtain rfl := B3.out
        exact ⟨rfl, HB2.out⟩
    · obtain rfl : k = l0.length := by omega
      go_wp2
      go_ret
      exact ⟨by rw [idxO_end HE.out]; rfl, HB.out⟩

end Go.Proofs.Ytmoiacijklkfaaa.G

/- G124 -/
-- Laid by wip/g/gprint.py out of the translation, by the kit's print program. Lean checks it.
namespace Go.Proofs.Ytmoiacijklkfaaa.G
open Go.RowKit Go.Proofs.YtmoiacijklkfaaaW.PrintWords Go.Proofs.YtmoiacijklkfaaaW.PrintLast Go.Proofs.YtmoiacijklkfaaaW.PrintMore
attribute [local go_sem] max2_int min2_int max_two min_two max_three min_three max_four min_four   -- for this text's walks alone
set_option linter.unusedVariables false
set_option linter.unusedSimpArgs false

/-! ### slices_ContainsFunc_simpl_Obj_impl_Obj: function 124 -/
theorem slices_ContainsFunc_simpl_Obj_impl_Obj.calls {α : Type} (d : Kd α) (hd : d.sz = 17) (kf : Nat) (hkf : ∀ (zs : Array Value) (W : World), (callFunc kf zs).run Try.prog W = .ok (.enter kf zs) W) (caps : Array Value) (p : α → Option Bool) (A0 : Option Addr) (c0 : Nat) (l0 : List α) (r : Int) (w : World) (hr0 : Kd.C d w A0 l0.length l0) (hc0 : l0.length ≤ c0)
    (hf : ∀ (x : α) (cs : List Value) (b : Bool) (W : World), x ∈ l0 → p x = some b → d.K W x cs → Below w.heap.size w W → Calls Try.prog kf (#[(.agg (cs).toArray)] ++ caps) W fun e w' => e = .returned (.bool b) ∧ Below W.heap.size W w') (h : idxO p l0 0 = some r) :
    Calls Try.prog 124 #[.slice A0 l0.length c0, .func (.func kf) #[] caps] w fun e w' => e = .returned (.bool (decide (0 ≤ r))) ∧ Below w.heap.size w w' := by
  have HR := Lib.hid hr0
  have HF := Lib.hid hf
  have HH := Lib.hid h
  have HD := Lib.hid hd
  clear hr0 hf h hd
  go_enter Try.func124, Try.ntmps124
  go_wp2_with fail
  refine (slices_IndexFunc_simpl_Obj_impl_Obj.calls d HD.out kf hkf caps p A0 c0 l0 r _ HR.out hc0 HF.out HH.out).mono ?_
  rintro e w' ⟨rfl, hb⟩
  have HB := Lib.hid hb
  clear hb
  go_wp2
  go_ret
  exact ⟨rfl, HB.out⟩

end Go.Proofs.Ytmoiacijklkfaaa.G

/- GKLess -/
/-
  The order of objects by kind and name; lists of objects that are right.
-/
namespace Go.Proofs.Ytmoiacijklkfaaa.G
open Go.RowKit Go.Proofs.YtmoiacijklkfaaaW.PrintWords Go.Proofs.YtmoiacijklkfaaaW.PrintLast Go.Proofs.YtmoiacijklkfaaaW.PrintMore
attribute [local go_sem] max2_int min2_int max_two min_two max_three min_three max_four min_four
set_option linter.unusedVariables false
set_option linter.unusedSimpArgs false
def lessB (x y : IObj) : Bool := if x.f0 < y.f0 then true else if x.f0 = y.f0 then Op.bytesLess x.f1.toList y.f1.toList else false
def cmpO (x y : IObj) : Int := if x.f0 < y.f0 then -1 else if x.f0 > y.f0 then 1 else Lib.compareBytes x.f1.data.toList y.f1.data.toList
theorem cmpInt_f (a b : Int) : cmp_Compare_int.f a b = some (if a < b then -1 else if a > b then 1 else 0) := by
  unfold cmp_Compare_int.f cmp_isNaN_int.f
  simp only [bne_self_eq_false, Option.bind_some, Bool.false_eq_true, if_false]
  by_cases h : a < b
  · rw [if_pos h, if_pos h]
  · rw [if_neg h, if_neg h]
    by_cases h2 : a > b
    · rw [if_pos h2, if_pos h2]
    · rw [if_neg h2, if_neg h2]
theorem cmpO_less (x y : IObj) : (0 ≤ cmpO x y) ↔ lessB x y = false := by
  unfold cmpO lessB
  by_cases h : x.f0 < y.f0
  · rw [if_pos h, if_pos h]; simp
  · rw [if_neg h, if_neg h]
    by_cases h2 : x.f0 > y.f0
    · rw [if_pos h2, if_neg (by omega)]; simp
    · rw [if_neg h2, if_pos (by omega)]
      have := cmp_neg x.f1.data.toList y.f1.data.toList
      have e1 : x.f1.toList = x.f1.data.toList := Lib.toList_data x.f1
      have e2 : y.f1.toList = y.f1.data.toList := Lib.toList_data y.f1
      rw [e1, e2, ← Bool.not_eq_true, ← this]
      omega
set_option maxHeartbeats 16000000 in
set_option maxRecDepth 100000 in
theorem less_calls (x y : IObj) (cs ds : List Value) (w : World) (hk : k46.K w x cs) (hd : k46.K w y ds) :
    Calls Try.prog 123 #[.agg cs.toArray, .agg ds.toArray] w fun e w' => e = .returned (.bool (lessB x y)) ∧ Below w.heap.size w w' := by
  obtain ⟨A6, c6, A10, c10, A11, c11, A15, c15, A16, c16, rfl, _⟩ := k46_open hk
  obtain ⟨B6, d6, B10, d10, B11, d11, B15, d15, B16, d16, rfl, _⟩ := k46_open hd
  obtain ⟨W1, hW1⟩ : ∃ W1, (w.alloc (.cells #[.int .i64 x.f0, .string x.f1, .int .i64 x.f2, .int .i64 x.f3, .int .i64 x.f4, .bool x.f5, .slice A6 x.f6.length c6, .int .i64 x.f7.f0, .string x.f7.f1, .int .i64 x.f7.f2, .slice A10 x.f7.f3.length c10, .slice A11 x.f7.f4.length c11, .int .i64 x.f8.f0, .string x.f8.f1, .int .i64 x.f8.f2, .slice A15 x.f8.f3.length c15, .slice A16 x.f8.f4.length c16] 46)).alloc (.cells #[.int .i64 y.f0, .string y.f1, .int .i64 y.f2, .int .i64 y.f3, .int .i64 y.f4, .bool y.f5, .slice B6 y.f6.length d6, .int .i64 y.f7.f0, .string y.f7.f1, .int .i64 y.f7.f2, .slice B10 y.f7.f3.length d10, .slice B11 y.f7.f4.length d11, .int .i64 y.f8.f0, .string y.f8.f1, .int .i64 y.f8.f2, .slice B15 y.f8.f3.length d15, .slice B16 y.f8.f4.length d16] 46) = W1 := ⟨_, rfl⟩
  have hbA := below_alloc (below_alloc (Below.refl w.heap.size w) (.cells #[.int .i64 x.f0, .string x.f1, .int .i64 x.f2, .int .i64 x.f3, .int .i64 x.f4, .bool x.f5, .slice A6 x.f6.length c6, .int .i64 x.f7.f0, .string x.f7.f1, .int .i64 x.f7.f2, .slice A10 x.f7.f3.length c10, .slice A11 x.f7.f4.length c11, .int .i64 x.f8.f0, .string x.f8.f1, .int .i64 x.f8.f2, .slice A15 x.f8.f3.length c15, .slice A16 x.f8.f4.length c16] 46)) (.cells #[.int .i64 y.f0, .string y.f1, .int .i64 y.f2, .int .i64 y.f3, .int .i64 y.f4, .bool y.f5, .slice B6 y.f6.length d6, .int .i64 y.f7.f0, .string y.f7.f1, .int .i64 y.f7.f2, .slice B10 y.f7.f3.length d10, .slice B11 y.f7.f4.length d11, .int .i64 y.f8.f0, .string y.f8.f1, .int .i64 y.f8.f2, .slice B15 y.f8.f3.length d15, .slice B16 y.f8.f4.length d16] 46)
  obtain ⟨hb0, hb1, hsz⟩ := alloc2 w (.cells #[.int .i64 x.f0, .string x.f1, .int .i64 x.f2, .int .i64 x.f3, .int .i64 x.f4, .bool x.f5, .slice A6 x.f6.length c6, .int .i64 x.f7.f0, .string x.f7.f1, .int .i64 x.f7.f2, .slice A10 x.f7.f3.length c10, .slice A11 x.f7.f4.length c11, .int .i64 x.f8.f0, .string x.f8.f1, .int .i64 x.f8.f2, .slice A15 x.f8.f3.length c15, .slice A16 x.f8.f4.length c16] 46) (.cells #[.int .i64 y.f0, .string y.f1, .int .i64 y.f2, .int .i64 y.f3, .int .i64 y.f4, .bool y.f5, .slice B6 y.f6.length d6, .int .i64 y.f7.f0, .string y.f7.f1, .int .i64 y.f7.f2, .slice B10 y.f7.f3.length d10, .slice B11 y.f7.f4.length d11, .int .i64 y.f8.f0, .string y.f8.f1, .int .i64 y.f8.f2, .slice B15 y.f8.f3.length d15, .slice B16 y.f8.f4.length d16] 46)
  rw [hW1] at hb0 hb1 hsz hbA
  have HBA := Lib.hid hbA
  have HW1 := Lib.hid hW1
  have HB0 : Hid (W1.heap[w.heap.size]? = some (.cells (obC x (.slice A6 x.f6.length c6) (.slice A10 x.f7.f3.length c10) (.slice A11 x.f7.f4.length c11) (.slice A15 x.f8.f3.length c15) (.slice A16 x.f8.f4.length c16)) 46 (0, 0))) := Lib.hid hb0
  have HB1 : Hid (W1.heap[w.heap.size + 1]? = some (.cells (obC y (.slice B6 y.f6.length d6) (.slice B10 y.f7.f3.length d10) (.slice B11 y.f7.f4.length d11) (.slice B15 y.f8.f3.length d15) (.slice B16 y.f8.f4.length d16)) 46 (0, 0))) := Lib.hid hb1
  clear hk hd hbA hb0 hb1 hsz hW1
  unfold lessB
  by_cases h1 : x.f0 < y.f0
  · rw [if_pos h1]
    go_enter Try.func123, Try.ntmps123
    go_wp2
    go_ret
    exact ⟨rfl, by rw [HW1.out]; exact HBA.out⟩
  · rw [if_neg h1]
    by_cases h2 : x.f0 = y.f0
    · rw [if_pos h2]
      have h2b : (x.f0 == y.f0) = true := beq_iff_eq.2 h2
      clear h2
      go_enter Try.func123, Try.ntmps123
      go_wp2
      go_ret
      exact ⟨rfl, by rw [HW1.out]; exact HBA.out⟩
    · rw [if_neg h2]
      have h2b : (x.f0 == y.f0) = false := beq_eq_false_iff_ne.2 h2
      go_enter Try.func123, Try.ntmps123
      go_wp2
      go_ret
      exact ⟨rfl, by rw [HW1.out]; exact HBA.out⟩
set_option maxHeartbeats 16000000 in
set_option maxRecDepth 100000 in
theorem cmpO_calls (x y : IObj) (cs ds : List Value) (w : World) (hk : k46.K w x cs) (hd : k46.K w y ds) :
    Calls Try.prog 120 #[.agg cs.toArray, .agg ds.toArray] w fun e w' => e = .returned (.int .i64 (cmpO x y)) ∧ Below w.heap.size w w' := by
  obtain ⟨A6, c6, A10, c10, A11, c11, A15, c15, A16, c16, rfl, _⟩ := k46_open hk
  obtain ⟨B6, d6, B10, d10, B11, d11, B15, d15, B16, d16, rfl, _⟩ := k46_open hd
  obtain ⟨W1, hW1⟩ : ∃ W1, (w.alloc (.cells #[.int .i64 x.f0, .string x.f1, .int .i64 x.f2, .int .i64 x.f3, .int .i64 x.f4, .bool x.f5, .slice A6 x.f6.length c6, .int .i64 x.f7.f0, .string x.f7.f1, .int .i64 x.f7.f2, .slice A10 x.f7.f3.length c10, .slice A11 x.f7.f4.length c11, .int .i64 x.f8.f0, .string x.f8.f1, .int .i64 x.f8.f2, .slice A15 x.f8.f3.length c15, .slice A16 x.f8.f4.length c16] 46)).alloc (.cells #[.int .i64 y.f0, .string y.f1, .int .i64 y.f2, .int .i64 y.f3, .int .i64 y.f4, .bool y.f5, .slice B6 y.f6.length d6, .int .i64 y.f7.f0, .string y.f7.f1, .int .i64 y.f7.f2, .slice B10 y.f7.f3.length d10, .slice B11 y.f7.f4.length d11, .int .i64 y.f8.f0, .string y.f8.f1, .int .i64 y.f8.f2, .slice B15 y.f8.f3.length d15, .slice B16 y.f8.f4.length d16] 46) = W1 := ⟨_, rfl⟩
  have hbA := below_alloc (below_alloc (Below.refl w.heap.size w) (.cells #[.int .i64 x.f0, .string x.f1, .int .i64 x.f2, .int .i64 x.f3, .int .i64 x.f4, .bool x.f5, .slice A6 x.f6.length c6, .int .i64 x.f7.f0, .string x.f7.f1, .int .i64 x.f7.f2, .slice A10 x.f7.f3.length c10, .slice A11 x.f7.f4.length c11, .int .i64 x.f8.f0, .string x.f8.f1, .int .i64 x.f8.f2, .slice A15 x.f8.f3.length c15, .slice A16 x.f8.f4.length c16] 46)) (.cells #[.int .i64 y.f0, .string y.f1, .int .i64 y.f2, .int .i64 y.f3, .int .i64 y.f4, .bool y.f5, .slice B6 y.f6.length d6, .int .i64 y.f7.f0, .string y.f7.f1, .int .i64 y.f7.f2, .slice B10 y.f7.f3.length d10, .slice B11 y.f7.f4.length d11, .int .i64 y.f8.f0, .string y.f8.f1, .int .i64 y.f8.f2, .slice B15 y.f8.f3.length d15, .slice B16 y.f8.f4.length d16] 46)
  obtain ⟨hb0, hb1, hsz⟩ := alloc2 w (.cells #[.int .i64 x.f0, .string x.f1, .int .i64 x.f2, .int .i64 x.f3, .int .i64 x.f4, .bool x.f5, .slice A6 x.f6.length c6, .int .i64 x.f7.f0, .string x.f7.f1, .int .i64 x.f7.f2, .slice A10 x.f7.f3.length c10, .slice A11 x.f7.f4.length c11, .int .i64 x.f8.f0, .string x.f8.f1, .int .i64 x.f8.f2, .slice A15 x.f8.f3.length c15, .slice A16 x.f8.f4.length c16] 46) (.cells #[.int .i64 y.f0, .string y.f1, .int .i64 y.f2, .int .i64 y.f3, .int .i64 y.f4, .bool y.f5, .slice B6 y.f6.length d6, .int .i64 y.f7.f0, .string y.f7.f1, .int .i64 y.f7.f2, .slice B10 y.f7.f3.length d10, .slice B11 y.f7.f4.length d11, .int .i64 y.f8.f0, .string y.f8.f1, .int .i64 y.f8.f2, .slice B15 y.f8.f3.length d15, .slice B16 y.f8.f4.length d16] 46)
  rw [hW1] at hb0 hb1 hsz hbA
  have HBA := Lib.hid hbA
  have HW1 := Lib.hid hW1
  have HB0 : Hid (W1.heap[w.heap.size]? = some (.cells (obC x (.slice A6 x.f6.length c6) (.slice A10 x.f7.f3.length c10) (.slice A11 x.f7.f4.length c11) (.slice A15 x.f8.f3.length c15) (.slice A16 x.f8.f4.length c16)) 46 (0, 0))) := Lib.hid hb0
  have HB1 : Hid (W1.heap[w.heap.size + 1]? = some (.cells (obC y (.slice B6 y.f6.length d6) (.slice B10 y.f7.f3.length d10) (.slice B11 y.f7.f4.length d11) (.slice B15 y.f8.f3.length d15) (.slice B16 y.f8.f4.length d16)) 46 (0, 0))) := Lib.hid hb1
  clear hk hd hbA hb0 hb1 hsz hW1
  go_enter Try.func120, Try.ntmps120
  go_wp2_with fail
  rw [HW1.out]
  refine (cmp_Compare_int.calls x.f0 y.f0 _ W1 (cmpInt_f _ _)).mono ?_
  rintro e w2 ⟨rfl, hd⟩
  have N2 := Lib.hid (below_step HBA.out hd.below)
  have Q0 := Lib.hid ((hd.below.block _ (blk_lt HB0.out)).trans HB0.out)
  have Q1 := Lib.hid ((hd.below.block _ (blk_lt HB1.out)).trans HB1.out)
  clear hd HW1
  by_cases h1 : x.f0 < y.f0
  · have hz : cmpO x y = -1 := by unfold cmpO; rw [if_pos h1]
    have HZ := Lib.hid hz
    rw [if_pos h1]
    clear hz h1
    go_wp2
    go_ret
    exact ⟨by rw [HZ.out]; first | done | rfl, N2.out⟩
  · by_cases h2 : x.f0 > y.f0
    · have hz : cmpO x y = 1 := by unfold cmpO; rw [if_neg h1, if_pos h2]
      have HZ := Lib.hid hz
      rw [if_neg h1, if_pos h2]
      clear hz h1 h2
      go_wp2
      go_ret
      exact ⟨by rw [HZ.out]; first | done | rfl, N2.out⟩
    · have hz : cmpO x y = Lib.compareBytes x.f1.data.toList y.f1.data.toList := by unfold cmpO; rw [if_neg h1, if_neg h2]
      have HZ := Lib.hid hz
      rw [if_neg h1, if_neg h2]
      clear hz h1 h2
      obtain ⟨a0, a1, a2, a3, a4, a5, a6⟩ := ob_c05 Q0.out
      obtain ⟨b0, b1, b2, b3, b4, b5, b6⟩ := ob_c05 Q1.out
      go_wp2_with fail
      clear a0 a1 a2 a3 a4 a5 a6 b0 b1 b2 b3 b4 b5 b6
      refine (strings_Compare.calls x.f1 y.f1 _ w2 rfl).mono ?_
      rintro e w3 ⟨rfl, hd⟩
      have N3 := Lib.hid (below_step N2.out hd.below)
      clear hd
      go_wp2
      go_ret
      exact ⟨by rw [HZ.out]; first | done | rfl, N3.out⟩
end Go.Proofs.Ytmoiacijklkfaaa.G

/- GKObjsOk -/
/-
  Lists of objects that are right: the reference's test and the program's.
-/
namespace Go.Proofs.Ytmoiacijklkfaaa.G
open Go.RowKit Go.Proofs.YtmoiacijklkfaaaW.PrintWords Go.Proofs.YtmoiacijklkfaaaW.PrintLast Go.Proofs.YtmoiacijklkfaaaW.PrintMore
attribute [local go_sem] max2_int min2_int max_two min_two max_three min_three max_four min_four
set_option linter.unusedVariables false
set_option linter.unusedSimpArgs false
def oAt (xs : List IObj) (i : Nat) : IObj := xs.getD i zO
theorem oAt_eq {xs : List IObj} {i : Nat} (h : i < xs.length) : oAt xs i = xs[i] := getD_at h _
def uidOld (xs : List IObj) (i : Nat) : Bool := (xs.take i).any (fun x => x.f2 == (oAt xs i).f2)
def objsAt (xs : List IObj) (rev next : Int) (i : Nat) : Bool := objB (oAt xs i) rev next false && ((i == 0 || lessB (oAt xs (i - 1)) (oAt xs i)) && !uidOld xs i)
/-- A base's objects that are right. -/
def objsB (xs : List IObj) (rev next : Int) : Bool := allN xs.length (objsAt xs rev next) && decide ((xs.length : Int) ≤ 60)
theorem allN_false {n : Nat} {ok : Nat → Bool} {i : Nat} (hi : i < n) (h : ok i = false) : allN n ok = false := by
  rw [← Bool.not_eq_true, allN_true]
  intro hh
  rw [hh i hi] at h; cases h
theorem objsB_bad {xs : List IObj} {rev next : Int} {i : Nat} (hi : i < xs.length) (h : objsAt xs rev next i = false) : objsB xs rev next = false := by
  unfold objsB; rw [allN_false hi h]; rfl
theorem objsB_end {xs : List IObj} {rev next : Int} (h : ∀ j, j < xs.length → objsAt xs rev next j = true) : objsB xs rev next = decide ((xs.length : Int) ≤ 60) := by
  unfold objsB; rw [allN_true.2 h]; rfl
theorem uidOld_true {xs : List IObj} {i k : Nat} (hi : i < xs.length) (hk : k < i) (h : xs[k].f2 = xs[i].f2) : uidOld xs i = true := by
  unfold uidOld
  rw [List.any_eq_true]
  exact ⟨xs[k], by rw [List.mem_iff_getElem]; exact ⟨k, by rw [List.length_take]; omega, by rw [List.getElem_take]⟩, by rw [oAt_eq hi]; simp [h]⟩
theorem uidOld_false {xs : List IObj} {i : Nat} (hi : i < xs.length) (h : ∀ j (hj : j < i), xs[j].f2 ≠ xs[i].f2) : uidOld xs i = false := by
  unfold uidOld
  rw [← Bool.not_eq_true, List.any_eq_true]
  rintro ⟨x, hx, he⟩
  obtain ⟨j, hj, rfl⟩ := List.mem_iff_getElem.1 hx
  rw [List.length_take] at hj
  rw [List.getElem_take, oAt_eq hi] at he
  exact h j (by omega) (by simpa using he)
theorem add_fld (a : Addr) (k : Nat) (hk : 0 < k) : a.add k = ⟨a.block, a.off + k, none⟩ := by
  unfold Addr.add
  rw [if_neg (by omega)]
/-- An element's second field. -/
theorem row_uid {w : World} {ad : Addr} {x : IObj} {cs : List Value} (hK : k46.K w x cs) (hc : ∀ j v, cs[j]? = some v → w.cell? (ad.add j) = some v) : w.cell? ⟨ad.block, ad.off + 2, none⟩ = some (.int .i64 x.f2) := by
  obtain ⟨A6, c6, A10, c10, A11, c11, A15, c15, A16, c16, rfl, _⟩ := k46_open hK
  have := hc 2 _ rfl
  rwa [add_fld _ _ (by decide)] at this
def T_spec_l7Objs_4 : Bool × List (List Nat × List Nat) := (true, [([], []), ([], []), ([0, 1], [0, 1]), ([2], [2]), ([], []), ([], []), ([3, 4, 5], [3, 4, 5]), ([6], [6]), ([7, 6], [7]), ([8], [8]), ([9, 8], [8, 9]), ([10, 8, 8], [8, 10]), ([11], [11]), ([11], [11]), ([13, 11], [11, 13]), ([12, 14, 11], [11, 12, 14]), ([15, 11], [11, 15]), ([11], [11]), ([11], [11]), ([17, 18, 11], [11, 17, 18]), ([19, 11], [11, 19]), ([16, 20, 11, 11], [11, 16, 20]), ([21, 11], [11, 21]), ([11, 22, 8], [8, 11, 22]), ([8, 23], [8, 23])])
def B_spec_l7Objs_4 : List Nat := [0, 0, 3, 7, 0, 0, 63, 127, 255, 511, 1023, 2047, 4095, 4095, 12287, 32767, 65535, 4095, 4095, 397311, 921599, 2097151, 4194303, 8388607, 16777215]
theorem t_spec_l7Objs_4 : rtab .any (opsOf Try.f69 4) = T_spec_l7Objs_4 := by kernel_rfl
theorem b_spec_l7Objs_4 : waitsOk T_spec_l7Objs_4.2 B_spec_l7Objs_4 = true := by kernel_rfl
def T_spec_l7Objs_9 : Bool × List (List Nat × List Nat) := (true, [([], []), ([], []), ([0, 1], [0, 1]), ([2], [2]), ([3], [3]), ([], []), ([], []), ([5, 6], [5, 6]), ([7], [7]), ([8], [8]), ([4, 9], [4, 9])])
def B_spec_l7Objs_9 : List Nat := [0, 0, 3, 7, 15, 0, 0, 96, 224, 480, 1023]
theorem t_spec_l7Objs_9 : rtab .any (opsOf Try.f69 9) = T_spec_l7Objs_9 := by kernel_rfl
theorem b_spec_l7Objs_9 : waitsOk T_spec_l7Objs_9.2 B_spec_l7Objs_9 = true := by kernel_rfl
def T_impl_objsOk_4 : Bool × List (List Nat × List Nat) := (true, [([], []), ([], []), ([], []), ([0, 1, 2], [0, 1, 2]), ([3], [3]), ([4, 3], [4]), ([5], [5]), ([6, 5], [5, 6]), ([7, 5, 5], [5, 7]), ([8], [8]), ([8], [8]), ([10, 8], [8, 10]), ([9, 11, 8], [8, 9, 11]), ([12, 8], [8, 12]), ([8], [8]), ([13, 14, 8, 8], [8, 13, 14]), ([15, 8], [8, 15]), ([8, 16, 5], [5, 8, 16]), ([5, 17], [5, 17])])
def B_impl_objsOk_4 : List Nat := [0, 0, 0, 7, 15, 31, 63, 127, 255, 511, 511, 1535, 4095, 8191, 511, 32767, 65535, 131071, 262143]
theorem t_impl_objsOk_4 : rtab .any (opsOf Try.f72 4) = T_impl_objsOk_4 := by kernel_rfl
theorem b_impl_objsOk_4 : waitsOk T_impl_objsOk_4.2 B_impl_objsOk_4 = true := by kernel_rfl
set_option maxHeartbeats 16000000 in
set_option maxRecDepth 100000 in
theorem l7Objs_calls (n : Nat) (xs : List IObj) (rev next : Int) (A : Option Addr) (c : Nat) (w : World) (hr : Kd.C k46 w A xs.length xs) (hc : xs.length ≤ c) (hs : ∀ x ∈ xs, SmX n x) (hn1 : 1 ≤ next) (hn2 : next ≤ 1000000) :
    Calls Try.prog 69 #[.slice A xs.length c, .int .i64 rev, .int .i64 next] w fun e w' => e = .returned (.bool (objsB xs rev next)) ∧ Below w.heap.size w w' := by
  have hlen := hr.2.1
  have HR := Lib.hid hr
  have HS := Lib.hid hs
  clear hr hs
  go_enter Try.func69, Try.ntmps69
  go_wp2
  go_loopw [7] (fun vi wr => ∃ i : Nat, i ≤ xs.length ∧ vi = .int .i64 i ∧ Hid (∀ j, j < i → objsAt xs rev next j = true) ∧ Hid (Below w.heap.size w wr)) (fun vi _ => xs.length - (intOf vi).toNat)
  case atStart => exact ⟨0, by omega, rfl, fun j hj => by omega, Below.refl _ _⟩
  case round =>
    obtain ⟨i, hi, rfl, HOK, HB⟩ := hrel
    by_cases hil : i < xs.length
    · obtain ⟨ad, cs, rfl, hcs, hK, hcell⟩ := row_at HR.out i hil
      have hsz : (k46 : Kd IObj).sz = 17 := rfl
      rw [hsz] at hcs hcell
      have HK := Lib.hid hK
      have HC := Lib.hid hcell
      have HCS := Lib.hid hcs
      clear hcs hK hcell hsz
      go_wp2_with fail
      refine start_ (n := 25) (S := fun w' => Below w.heap.size w w') (ds := []) #[false, false, false, false, false, false, false, false, false, false, false, false, false, false, false, false, false, false, false, false, false, false, false, false, false] (by kernel_rfl) rfl rfl (below_drew HB.out) (fun hHeld => ?_)
      refine with_tabW t_spec_l7Objs_4 b_spec_l7Objs_4 (fun HT_ HW_ => ?_)
      generalize wr.drew = w1 at hHeld ⊢
      repeat (apply takeA_ HT_.out HW_.out [0, 1, 2, 3, 4, 5]; (case hn => exact rfl); (case hi0 => exact rfl); (case hl => simp only [List.setIfInBounds_toArray, List.set_cons_zero, List.set_cons_succ]; rfl); (case hQ => exact fun _ _ _ h => h); (case hy => first | exact Or.inr ⟨by rfl, rfl⟩ | (exact yield_row (ad := ad.add (i * 17)) (cs := cs) (by rfl) rfl rfl (fun w_ hS_ => HC.out w_ hS_) Try.underlying46 rfl (by rw [HCS.out]; kernel_rfl)) | (refine Or.inl ⟨by rfl, ?_⟩; intro w_ hS_; go_simp; with_reducible rfl)); (case hS => exact hHeld); (case ha => simp only [Act.put, List.setIfInBounds_toArray, List.set_cons_zero, List.set_cons_succ, i64_w, i32_w]; rfl))
      have HB1 := Lib.hid hHeld
      refine callA_ (i := 6) (l' := ?_) HT_.out rfl rfl ?_ (by decide) Try.func70 (by kernel_rfl) rfl (by rfl) rfl (by (try simp only [List.map_toArray, List.map_cons, List.map_nil]); first | done | rfl) (l7Obj_calls n xs[i] rev next false cs w1 ((k46 : Kd IObj).K_below hHeld HK.out) (HS.out _ (List.getElem_mem hil)) hn1 hn2) ?_
      rotate_left
      · simp only [List.setIfInBounds_toArray, List.set_cons_zero, List.set_cons_succ]; rfl
      rintro e w2 ⟨rfl, hb2⟩
      have hHeld2 := below_step HB1.out hb2
      refine ⟨_, rfl, hHeld2, ?_⟩
      have HB2 := Lib.hid hHeld2
      clear hb2 hHeld HB1
      cases hb : objB xs[i] rev next false with
      | false =>
        have HZ := Lib.hid (objsB_bad (rev := rev) (next := next) hil (by unfold objsAt; rw [oAt_eq hil, hb]; rfl))
        clear hb
        refine norm_ (a' := ?_) ?_ ?_
        rotate_left
        · simp only [Act.put, List.setIfInBounds_toArray, List.set_cons_zero, List.set_cons_succ, i64_w, i32_w]; rfl
        repeat (apply takeA_ HT_.out HW_.out [7, 8, 9, 10, 11, 12, 13, 14, 15, 16, 17, 18, 19, 20, 21, 22, 23, 24]; (case hn => exact rfl); (case hi0 => exact rfl); (case hl => simp only [List.setIfInBounds_toArray, List.set_cons_zero, List.set_cons_succ]; rfl); (case hQ => exact fun _ _ _ h => h); (case hy => first | exact Or.inr ⟨by rfl, rfl⟩ | (refine Or.inl ⟨by rfl, ?_⟩; intro w_ hS_; go_simp; with_reducible rfl)); (case hS => exact hHeld2); (case ha => simp only [Act.put, List.setIfInBounds_toArray, List.set_cons_zero, List.set_cons_succ, i64_w, i32_w]; rfl))
        refine done_ (done_of HT_.out (by kernel_rfl)) ?_
        clear hHeld2 HT_ HW_ HC
        go_wp2
        go_ret
        exact ⟨by rw [HZ.out]; first | done | rfl, HB2.out⟩
      | true =>
        have HO := Lib.hid hb
        clear hb
        by_cases h0 : i = 0
        · have hp1 : (0 < (i : Int)) = False := eq_false (by omega)
          have hp2 : (0 < i) = False := eq_false (by omega)
          have HI0 := Lib.hid h0
          clear h0
          refine norm_ (a' := ?_) ?_ ?_
          rotate_left
          · simp only [Act.put, List.setIfInBounds_toArray, List.set_cons_zero, List.set_cons_succ, i64_w, i32_w]; rfl
          repeat (apply takeA_ HT_.out HW_.out [7, 8, 9, 10, 11, 12, 13, 14, 15, 16, 17, 18, 19, 20, 21, 22, 23, 24]; (case hn => exact rfl); (case hi0 => exact rfl); (case hl => simp only [List.setIfInBounds_toArray, List.set_cons_zero, List.set_cons_succ]; rfl); (case hQ => exact fun _ _ _ h => h); (case hy => first | exact Or.inr ⟨by rfl, rfl⟩ | (refine Or.inl ⟨by rfl, ?_⟩; intro w_ hS_; go_simp; with_reducible rfl)); (case hS => exact hHeld2); (case ha => simp only [Act.put, List.setIfInBounds_toArray, List.set_cons_zero, List.set_cons_succ, i64_w, i32_w]; rfl))
          refine done_ (done_of HT_.out (by kernel_rfl)) ?_
          clear hHeld2 HT_ HW_
          go_wp2
          go_loopw [8] (fun vk wq => ∃ k : Nat, k ≤ i ∧ vk = .int .i64 k ∧ Hid (∀ j (hj : j < k) (hk : k ≤ i), xs[j].f2 ≠ xs[i].f2) ∧ Hid (Below w.heap.size w wq)) (fun vk _ => i - (intOf vk).toNat)
          case atStart => exact ⟨0, by omega, rfl, fun j hj => by omega, HB2⟩
          case round =>
            obtain ⟨k, hk, rfl, HNE, HBQ⟩ := hrel
            by_cases hki : k < i
            · have hkl : k < xs.length := by omega
              obtain ⟨ae, ds, hae, hds, hL, hdell⟩ := row_at HR.out k (by omega)
              obtain rfl := Option.some.inj hae
              have hsz : (k46 : Kd IObj).sz = 17 := rfl
              rw [hsz] at hdell
              have HU := Lib.hid (fun W (hW : Below w.heap.size w W) => row_uid ((k46 : Kd IObj).K_below hW hL) (hdell W hW))
              have HV := Lib.hid (fun W (hW : Below w.heap.size w W) => row_uid ((k46 : Kd IObj).K_below hW HK.out) (HC.out W hW))
              clear hae hds hL hdell hsz
              by_cases hu : xs[k].f2 = xs[i].f2
              · have HZ := Lib.hid (objsB_bad (rev := rev) (next := next) hil (by unfold objsAt; rw [uidOld_true hil hki hu]; simp))
                have hub : (xs[k].f2 == xs[i].f2) = true := beq_iff_eq.2 hu
                clear hu
                go_wp2_with fail
                refine start_ (n := 11) (S := fun w' => Below w.heap.size w w') (ds := []) #[false, false, false, false, false, false, false, false, false, false, false] (by kernel_rfl) rfl rfl (below_drew HBQ.out) (fun hHeld => ?_)
                refine with_tabW t_spec_l7Objs_9 b_spec_l7Objs_9 (fun HT_ HW_ => ?_)
                generalize World.drew _ = w9 at hHeld ⊢
                repeat (apply takeA_ HT_.out HW_.out [0, 1, 2, 3, 4, 5, 6, 7, 8, 9, 10]; (case hn => exact rfl); (case hi0 => exact rfl); (case hl => simp only [List.setIfInBounds_toArray, List.set_cons_zero, List.set_cons_succ]; rfl); (case hQ => exact fun _ _ _ h => h); (case hy => first | exact Or.inr ⟨by rfl, rfl⟩ | (refine Or.inl ⟨by rfl, ?_⟩; intro w_ hS_; have s2 := HU.out w_ hS_; have t2 := HV.out w_ hS_; go_simp; with_reducible rfl) | (refine Or.inl ⟨by rfl, ?_⟩; intro w_ hS_; go_simp; with_reducible rfl)); (case hS => exact hHeld); (case ha => simp only [Act.put, List.setIfInBounds_toArray, List.set_cons_zero, List.set_cons_succ, i64_w, i32_w]; rfl))
                refine done_ (done_of HT_.out (by kernel_rfl)) ?_
                have HB9 := Lib.hid hHeld
                clear hHeld HT_ HW_ HU HV
                go_wp2
                go_ret
                exact ⟨by rw [HZ.out]; first | done | rfl, HB9.out⟩
              · have hub : (xs[k].f2 == xs[i].f2) = false := beq_eq_false_iff_ne.2 hu
                have HUN := Lib.hid hu
                clear hu
                go_wp2_with fail
                refine start_ (n := 11) (S := fun w' => Below w.heap.size w w') (ds := []) #[false, false, false, false, false, false, false, false, false, false, false] (by kernel_rfl) rfl rfl (below_drew HBQ.out) (fun hHeld => ?_)
                refine with_tabW t_spec_l7Objs_9 b_spec_l7Objs_9 (fun HT_ HW_ => ?_)
                generalize World.drew _ = w9 at hHeld ⊢
                repeat (apply takeA_ HT_.out HW_.out [0, 1, 2, 3, 4, 5, 6, 7, 8, 9, 10]; (case hn => exact rfl); (case hi0 => exact rfl); (case hl => simp only [List.setIfInBounds_toArray, List.set_cons_zero, List.set_cons_succ]; rfl); (case hQ => exact fun _ _ _ h => h); (case hy => first | exact Or.inr ⟨by rfl, rfl⟩ | (refine Or.inl ⟨by rfl, ?_⟩; intro w_ hS_; have s2 := HU.out w_ hS_; have t2 := HV.out w_ hS_; go_simp; with_reducible rfl) | (refine Or.inl ⟨by rfl, ?_⟩; intro w_ hS_; go_simp; with_reducible rfl)); (case hS => exact hHeld); (case ha => simp only [Act.put, List.setIfInBounds_toArray, List.set_cons_zero, List.set_cons_succ, i64_w, i32_w]; rfl))
                refine done_ (done_of HT_.out (by kernel_rfl)) ?_
                have HB9 := Lib.hid hHeld
                clear hHeld HT_ HW_ HU HV
                go_wp2
                go_roundw
                case rel =>
                  refine ⟨k + 1, by omega, by go_num, fun j hj hk2 => ?_, HB9⟩
                  rcases Nat.lt_succ_iff_lt_or_eq.1 hj with h | h
                  · exact HNE.out j h (by omega)
                  · subst h; exact HUN.out
                case measure => simp [intOf]; omega
            · obtain rfl : k = i := by omega
              skip
              have hat : objsAt xs rev next k = true := by
                unfold objsAt
                rw [oAt_eq hil, HO.out, uidOld_false hil (fun j hj => HNE.out j hj (Nat.le_refl _))]
                simp [HI0.out]
              have HOK2 : Hid (∀ j, j < k + 1 → objsAt xs rev next j = true) := Lib.hid (fun j hj => by
                rcases Nat.lt_succ_iff_lt_or_eq.1 hj with h | h
                · exact HOK.out j h
                · subst h; exact hat)
              clear hat
              go_wp2
              go_roundw
              case rel => exact ⟨k + 1, by omega, by go_num, HOK2, HBQ⟩
              case measure => simp [intOf]; omega
        · obtain ⟨j0, hj0⟩ : ∃ j0, i = j0 + 1 := ⟨i - 1, by omega⟩
          have hjl : j0 < xs.length := by omega
          obtain ⟨ae, ds, hae, hds, hL, hdell⟩ := row_at HR.out j0 hjl
          obtain rfl := Option.some.inj hae
          have hsz : (k46 : Kd IObj).sz = 17 := rfl
          rw [hsz] at hdell hds
          have HL := Lib.hid hL
          have HD := Lib.hid hdell
          have HDS := Lib.hid hds
          have hw1 : (i : Int) - 1 = (j0 : Int) := by omega
          have hw3 : wrap64 (j0 : Int) = (j0 : Int) := w64 (by omega) (by omega)
          have hp1 : (0 < (i : Int)) = True := eq_true (by omega)
          have hp2 : (0 < i) = True := eq_true (by omega)
          have HJ0 := Lib.hid hj0
          clear hae hds hL hdell hsz
          clear hj0 h0
          refine norm_ (a' := ?_) ?_ ?_
          rotate_left
          · simp only [Act.put, List.setIfInBounds_toArray, List.set_cons_zero, List.set_cons_succ, i64_w, i32_w]; rfl
          repeat (apply takeA_ HT_.out HW_.out [7, 8, 9, 10, 11, 12, 13, 14, 15, 16, 17, 18, 19, 20]; (case hn => exact rfl); (case hi0 => exact rfl); (case hl => simp only [List.setIfInBounds_toArray, List.set_cons_zero, List.set_cons_succ]; rfl); (case hQ => exact fun _ _ _ h => h); (case hy => first | exact Or.inr ⟨by rfl, rfl⟩ | (exact yield_row (ad := ad.add (i * 17)) (cs := cs) (by rfl) rfl rfl (fun w_ hS_ => HC.out w_ hS_) Try.underlying46 rfl (by rw [HCS.out]; kernel_rfl)) | (exact yield_row (ad := ad.add (j0 * 17)) (cs := ds) (by rfl) rfl rfl (fun w_ hS_ => HD.out w_ hS_) Try.underlying46 rfl (by rw [HDS.out]; kernel_rfl)) | (refine Or.inl ⟨by rfl, ?_⟩; intro w_ hS_; go_simp; with_reducible rfl)); (case hS => exact hHeld2); (case ha => simp only [Act.put, List.setIfInBounds_toArray, List.set_cons_zero, List.set_cons_succ, i64_w, i32_w]; rfl))
          refine callA_ (i := 21) (l' := ?_) HT_.out rfl rfl ?_ (by decide) Try.func123 (by kernel_rfl) rfl (by rfl) rfl (by (try simp only [List.map_toArray, List.map_cons, List.map_nil]); first | done | rfl) (less_calls xs[j0] xs[i] ds cs w2 ((k46 : Kd IObj).K_below hHeld2 HL.out) ((k46 : Kd IObj).K_below hHeld2 HK.out)) ?_
          rotate_left
          · simp only [List.setIfInBounds_toArray, List.set_cons_zero, List.set_cons_succ]; rfl
          rintro e w3 ⟨rfl, hb3⟩
          have hHeld3 := below_step HB2.out hb3
          refine ⟨_, rfl, hHeld3, ?_⟩
          have HB3 := Lib.hid hHeld3
          clear hb3 hHeld2 HB2
          cases hlb : lessB xs[j0] xs[i] with
          | false =>
            have HZ := Lib.hid (objsB_bad (rev := rev) (next := next) hil (by unfold objsAt; rw [oAt_eq hil, show i - 1 = j0 by have := HJ0.out; omega, oAt_eq hjl, hlb]; simp [HJ0.out]))
            clear hlb
            refine norm_ (a' := ?_) ?_ ?_
            rotate_left
            · simp only [Act.put, List.setIfInBounds_toArray, List.set_cons_zero, List.set_cons_succ, i64_w, i32_w]; rfl
            repeat (apply takeA_ HT_.out HW_.out [22, 23, 24]; (case hn => exact rfl); (case hi0 => exact rfl); (case hl => simp only [List.setIfInBounds_toArray, List.set_cons_zero, List.set_cons_succ]; rfl); (case hQ => exact fun _ _ _ h => h); (case hy => first | exact Or.inr ⟨by rfl, rfl⟩ | (refine Or.inl ⟨by rfl, ?_⟩; intro w_ hS_; go_simp; with_reducible rfl)); (case hS => exact hHeld3); (case ha => simp only [Act.put, List.setIfInBounds_toArray, List.set_cons_zero, List.set_cons_succ, i64_w, i32_w]; rfl))
            refine done_ (done_of HT_.out (by kernel_rfl)) ?_
            clear hHeld3 HT_ HW_ HC HD
            go_wp2
            go_ret
            exact ⟨by rw [HZ.out]; first | done | rfl, HB3.out⟩
          | true =>
            have HLB := Lib.hid hlb
            clear hlb
            refine norm_ (a' := ?_) ?_ ?_
            rotate_left
            · simp only [Act.put, List.setIfInBounds_toArray, List.set_cons_zero, List.set_cons_succ, i64_w, i32_w]; rfl
            repeat (apply takeA_ HT_.out HW_.out [22, 23, 24]; (case hn => exact rfl); (case hi0 => exact rfl); (case hl => simp only [List.setIfInBounds_toArray, List.set_cons_zero, List.set_cons_succ]; rfl); (case hQ => exact fun _ _ _ h => h); (case hy => first | exact Or.inr ⟨by rfl, rfl⟩ | (refine Or.inl ⟨by rfl, ?_⟩; intro w_ hS_; go_simp; with_reducible rfl)); (case hS => exact hHeld3); (case ha => simp only [Act.put, List.setIfInBounds_toArray, List.set_cons_zero, List.set_cons_succ, i64_w, i32_w]; rfl))
            refine done_ (done_of HT_.out (by kernel_rfl)) ?_
            clear hHeld3 HT_ HW_
            go_wp2
            go_loopw [8] (fun vk wq => ∃ k : Nat, k ≤ i ∧ vk = .int .i64 k ∧ Hid (∀ j (hj : j < k) (hk : k ≤ i), xs[j].f2 ≠ xs[i].f2) ∧ Hid (Below w.heap.size w wq)) (fun vk _ => i - (intOf vk).toNat)
            case atStart => exact ⟨0, by omega, rfl, fun j hj => by omega, HB3⟩
            case round =>
              obtain ⟨k, hk, rfl, HNE, HBQ⟩ := hrel
              by_cases hki : k < i
              · have hkl : k < xs.length := by omega
                obtain ⟨ae, ds, hae, hds, hL, hdell⟩ := row_at HR.out k (by omega)
                obtain rfl := Option.some.inj hae
                have hsz : (k46 : Kd IObj).sz = 17 := rfl
                rw [hsz] at hdell
                have HU := Lib.hid (fun W (hW : Below w.heap.size w W) => row_uid ((k46 : Kd IObj).K_below hW hL) (hdell W hW))
                have HV := Lib.hid (fun W (hW : Below w.heap.size w W) => row_uid ((k46 : Kd IObj).K_below hW HK.out) (HC.out W hW))
                clear hae hds hL hdell hsz
                by_cases hu : xs[k].f2 = xs[i].f2
                · have HZ := Lib.hid (objsB_bad (rev := rev) (next := next) hil (by unfold objsAt; rw [uidOld_true hil hki hu]; simp))
                  have hub : (xs[k].f2 == xs[i].f2) = true := beq_iff_eq.2 hu
                  clear hu
                  go_wp2_with fail
                  refine start_ (n := 11) (S := fun w' => Below w.heap.size w w') (ds := []) #[false, false, false, false, false, false, false, false, false, false, false] (by kernel_rfl) rfl rfl (below_drew HBQ.out) (fun hHeld => ?_)
                  refine with_tabW t_spec_l7Objs_9 b_spec_l7Objs_9 (fun HT_ HW_ => ?_)
                  generalize World.drew _ = w9 at hHeld ⊢
                  repeat (apply takeA_ HT_.out HW_.out [0, 1, 2, 3, 4, 5, 6, 7, 8, 9, 10]; (case hn => exact rfl); (case hi0 => exact rfl); (case hl => simp only [List.setIfInBounds_toArray, List.set_cons_zero, List.set_cons_succ]; rfl); (case hQ => exact fun _ _ _ h => h); (case hy => first | exact Or.inr ⟨by rfl, rfl⟩ | (refine Or.inl ⟨by rfl, ?_⟩; intro w_ hS_; have s2 := HU.out w_ hS_; have t2 := HV.out w_ hS_; go_simp; with_reducible rfl) | (refine Or.inl ⟨by rfl, ?_⟩; intro w_ hS_; go_simp; with_reducible rfl)); (case hS => exact hHeld); (case ha => simp only [Act.put, List.setIfInBounds_toArray, List.set_cons_zero, List.set_cons_succ, i64_w, i32_w]; rfl))
                  refine done_ (done_of HT_.out (by kernel_rfl)) ?_
                  have HB9 := Lib.hid hHeld
                  clear hHeld HT_ HW_ HU HV
                  go_wp2
                  go_ret
                  exact ⟨by rw [HZ.out]; first | done | rfl, HB9.out⟩
                · have hub : (xs[k].f2 == xs[i].f2) = false := beq_eq_false_iff_ne.2 hu
                  have HUN := Lib.hid hu
                  clear hu
                  go_wp2_with fail
                  refine start_ (n := 11) (S := fun w' => Below w.heap.size w w') (ds := []) #[false, false, false, false, false, false, false, false, false, false, false] (by kernel_rfl) rfl rfl (below_drew HBQ.out) (fun hHeld => ?_)
                  refine with_tabW t_spec_l7Objs_9 b_spec_l7Objs_9 (fun HT_ HW_ => ?_)
                  generalize World.drew _ = w9 at hHeld ⊢
                  repeat (apply takeA_ HT_.out HW_.out [0, 1, 2, 3, 4, 5, 6, 7, 8, 9, 10]; (case hn => exact rfl); (case hi0 => exact rfl); (case hl => simp only [List.setIfInBounds_toArray, List.set_cons_zero, List.set_cons_succ]; rfl); (case hQ => exact fun _ _ _ h => h); (case hy => first | exact Or.inr ⟨by rfl, rfl⟩ | (refine Or.inl ⟨by rfl, ?_⟩; intro w_ hS_; have s2 := HU.out w_ hS_; have t2 := HV.out w_ hS_; go_simp; with_reducible rfl) | (refine Or.inl ⟨by rfl, ?_⟩; intro w_ hS_; go_simp; with_reducible rfl)); (case hS => exact hHeld); (case ha => simp only [Act.put, List.setIfInBounds_toArray, List.set_cons_zero, List.set_cons_succ, i64_w, i32_w]; rfl))
                  refine done_ (done_of HT_.out (by kernel_rfl)) ?_
                  have HB9 := Lib.hid hHeld
                  clear hHeld HT_ HW_ HU HV
                  go_wp2
                  go_roundw
                  case rel =>
                    refine ⟨k + 1, by omega, by go_num, fun j hj hk2 => ?_, HB9⟩
                    rcases Nat.lt_succ_iff_lt_or_eq.1 hj with h | h
                    · exact HNE.out j h (by omega)
                    · subst h; exact HUN.out
                  case measure => simp [intOf]; omega
              · obtain rfl : k = i := by omega
                skip
                have hat : objsAt xs rev next k = true := by
                  unfold objsAt
                  rw [oAt_eq hil, HO.out, uidOld_false hil (fun j hj => HNE.out j hj (Nat.le_refl _))]
                  rw [show k - 1 = j0 by have := HJ0.out; omega, oAt_eq hjl, HLB.out]; simp
                have HOK2 : Hid (∀ j, j < k + 1 → objsAt xs rev next j = true) := Lib.hid (fun j hj => by
                  rcases Nat.lt_succ_iff_lt_or_eq.1 hj with h | h
                  · exact HOK.out j h
                  · rw [h]; exact hat)
                clear hat
                go_wp2
                go_roundw
                case rel => exact ⟨k + 1, by omega, by go_num, HOK2, HBQ⟩
                case measure => simp [intOf]; omega
    · obtain rfl : i = xs.length := by omega
      have HZ := Lib.hid (objsB_end HOK.out)
      go_wp2
      go_ret
      exact ⟨by rw [HZ.out]; first | done | rfl, HB.out⟩
theorem idx_any {α : Type} (q : α → Bool) : ∀ (l : List α) (i : Nat), ∃ r, idxO (fun x => some (q x)) l i = some r ∧ decide (0 ≤ r) = l.any q
  | [], i => ⟨-1, rfl, rfl⟩
  | x :: xs, i => by
    cases hq : q x with
    | true => exact ⟨i, by rw [idxO]; simp [hq], by rw [List.any_cons, hq, Bool.true_or]; exact decide_eq_true (by omega)⟩
    | false =>
      obtain ⟨r, hr, he⟩ := idx_any q xs (i + 1)
      exact ⟨r, by rw [idxO]; simp [hq, hr], by rw [List.any_cons, hq, Bool.false_or, he]⟩
theorem C_take {α : Type} {d : Kd α} {w : World} {A : Option Addr} {n i : Nat} {xs : List α} (h : Kd.C d w A n xs) (hi : i ≤ xs.length) : Kd.C d w A i (xs.take i) := by
  obtain ⟨h1, h2, h3⟩ := h
  refine ⟨by rw [List.length_take]; omega, by omega, fun hp => ?_⟩
  obtain ⟨ad, ha, hc⟩ := h3 (by omega)
  refine ⟨ad, ha, fun j p hj => ?_⟩
  rw [List.getElem?_take] at hj
  split at hj
  · exact hc j p hj
  · cases hj
set_option maxHeartbeats 16000000 in
set_option maxRecDepth 100000 in
theorem objsOk1_calls (x y : IObj) (cs ds : List Value) (g : Nat) (W : World) (hk : k46.K W x cs) (hd : k46.K W y ds) (hg : W.heap[g]? = some (.cells ds.toArray 46 (0, 0))) :
    Calls Try.prog 125 (#[.agg cs.toArray] ++ #[.pointer (some ⟨g, 0, none⟩)]) W fun e w' => e = .returned (.bool (x.f2 == y.f2)) ∧ Below W.heap.size W w' := by
  obtain ⟨A6, c6, A10, c10, A11, c11, A15, c15, A16, c16, rfl, _⟩ := k46_open hk
  obtain ⟨B6, d6, B10, d10, B11, d11, B15, d15, B16, d16, rfl, _⟩ := k46_open hd
  have n1 := blk_lt hg
  have d2 := (blk_cell hg 2).trans rfl
  have HB := Lib.hid (below_alloc (Below.refl W.heap.size W) (.cells #[.int .i64 x.f0, .string x.f1, .int .i64 x.f2, .int .i64 x.f3, .int .i64 x.f4, .bool x.f5, .slice A6 x.f6.length c6, .int .i64 x.f7.f0, .string x.f7.f1, .int .i64 x.f7.f2, .slice A10 x.f7.f3.length c10, .slice A11 x.f7.f4.length c11, .int .i64 x.f8.f0, .string x.f8.f1, .int .i64 x.f8.f2, .slice A15 x.f8.f3.length c15, .slice A16 x.f8.f4.length c16] 46))
  clear hk hd hg
  go_enter Try.func125, Try.ntmps125
  go_wp2
  go_ret
  exact ⟨rfl, HB.out⟩
set_option maxHeartbeats 16000000 in
set_option maxRecDepth 100000 in
theorem objsOk_calls (n : Nat) (xs : List IObj) (rev next : Int) (A : Option Addr) (c : Nat) (w : World) (hr : Kd.C k46 w A xs.length xs) (hc : xs.length ≤ c) (hs : ∀ x ∈ xs, SmX n x) (hn1 : 1 ≤ next) (hn2 : next ≤ 1000000) :
    Calls Try.prog 72 #[.slice A xs.length c, .int .i64 (next - 1), .int .i64 rev] w fun e w' => e = .returned (.bool (objsB xs rev next)) ∧ Below w.heap.size w w' := by
  have hlen := hr.2.1
  have HR := Lib.hid hr
  have HS := Lib.hid hs
  clear hr hs
  go_enter Try.func72, Try.ntmps72
  go_wp2
  go_loopw [11] (fun vi wr => ∃ i : Nat, i ≤ xs.length ∧ vi = .int .i64 i ∧ Hid (∀ j, j < i → objsAt xs rev next j = true) ∧ Hid (Below w.heap.size w wr)) (fun vi _ => xs.length - (intOf vi).toNat)
  case atStart => exact ⟨0, by omega, rfl, fun j hj => by omega, Below.refl _ _⟩
  case round =>
    obtain ⟨i, hi, rfl, HOK, HB⟩ := hrel
    by_cases hil : i < xs.length
    · obtain ⟨ad, cs, rfl, hcs, hK, hcell⟩ := row_at HR.out i hil
      have hsz : (k46 : Kd IObj).sz = 17 := rfl
      rw [hsz] at hcs hcell
      have hone := (k46 : Kd IObj).K_one hK
      have HK := Lib.hid hK
      have HC := Lib.hid hcell
      have HCS := Lib.hid hcs
      have HONE := Lib.hid hone
      clear hcs hK hcell hsz hone
      go_wp2_with (first | ((with_reducible refine gate_dst (N := 15) rfl ?_); refine load_event rfl (N := 15) rfl 46 (.tmp 14) rfl (ad.add (i * 17)) ?hx cs (HC.out wr HB.out) Try.underlying46 rfl ?hi ?_; (case hx => first | rfl | (go_simp; done) | (go_simp; rfl)); (case hi => rw [HCS.out]; kernel_rfl)) | ((with_reducible refine gate_store (p := 8) rfl ?_); refine store_event rfl rfl rfl (blk_new wr _) rfl rfl ?hs ?hi ?h1 ?_; (case hs => simp [HCS.out]); (case hi => simp only [List.size_toArray, HCS.out]; kernel_rfl); (case h1 => simpa using HONE.out); intro w5 hz hs5 hfar5 hB5; have HZB := Lib.hid hz; have HB5 := Lib.hid (hB5 w HB.out.size (below_alloc HB.out _)); clear hz hs5 hfar5 hB5))
      refine start_ (n := 19) (S := fun w' => Below w5.heap.size w5 w') (ds := []) #[false, false, false, false, false, false, false, false, false, false, false, false, false, false, false, false, false, false, false] (by kernel_rfl) rfl rfl (below_drew (Below.refl w5.heap.size w5)) (fun hHeld => ?_)
      refine with_tabW t_impl_objsOk_4 b_impl_objsOk_4 (fun HT_ HW_ => ?_)
      generalize w5.drew = w6 at hHeld ⊢
      repeat (apply takeA_ HT_.out HW_.out [0, 1, 2]; (case hn => exact rfl); (case hi0 => exact rfl); (case hl => simp only [List.setIfInBounds_toArray, List.set_cons_zero, List.set_cons_succ]; rfl); (case hQ => exact fun _ _ _ h => h); (case hy => first | exact Or.inr ⟨by rfl, rfl⟩ | (exact yield_row (ad := ⟨wr.heap.size, 0, none⟩) (cs := cs) (by rfl) rfl rfl (fun w_ hS_ => blk_row' ((hS_.block _ (blk_lt HZB.out)).trans HZB.out)) Try.underlying46 rfl (by rw [HCS.out]; kernel_rfl)) | (refine Or.inl ⟨by rfl, ?_⟩; intro w_ hS_; go_simp; with_reducible rfl)); (case hS => exact hHeld); (case ha => simp only [Act.put, List.setIfInBounds_toArray, List.set_cons_zero, List.set_cons_succ, i64_w, i32_w]; rfl))
      have HB6 := Lib.hid hHeld
      refine callA_ (i := 3) (l' := ?_) HT_.out rfl rfl ?_ (by decide) Try.func73 (by kernel_rfl) rfl (by rfl) rfl (by (try simp only [List.map_toArray, List.map_cons, List.map_nil]); first | done | rfl) (objOk_calls n xs[i] rev next false cs w6 ((k46 : Kd IObj).K_below (below_step HB5.out hHeld) HK.out) (HS.out _ (List.getElem_mem hil)) hn1 hn2) ?_
      rotate_left
      · simp only [List.setIfInBounds_toArray, List.set_cons_zero, List.set_cons_succ]; rfl
      rintro e w7 ⟨rfl, hb7⟩
      have hHeld2 := below_step HB6.out hb7
      refine ⟨_, rfl, hHeld2, ?_⟩
      have HB7 := Lib.hid hHeld2
      clear hb7 hHeld HB6
      cases hb : objB xs[i] rev next false with
      | false =>
        have HZ := Lib.hid (objsB_bad (rev := rev) (next := next) hil (by unfold objsAt; rw [oAt_eq hil, hb]; rfl))
        clear hb
        refine norm_ (a' := ?_) ?_ ?_
        rotate_left
        · simp only [Act.put, List.setIfInBounds_toArray, List.set_cons_zero, List.set_cons_succ, i64_w, i32_w]; rfl
        repeat (apply takeA_ HT_.out HW_.out [4, 5, 6, 7, 8, 9, 10, 11, 12, 13, 14, 15, 16, 17, 18]; (case hn => exact rfl); (case hi0 => exact rfl); (case hl => simp only [List.setIfInBounds_toArray, List.set_cons_zero, List.set_cons_succ]; rfl); (case hQ => exact fun _ _ _ h => h); (case hy => first | exact Or.inr ⟨by rfl, rfl⟩ | (refine Or.inl ⟨by rfl, ?_⟩; intro w_ hS_; go_simp; with_reducible rfl)); (case hS => exact hHeld2); (case ha => simp only [Act.put, List.setIfInBounds_toArray, List.set_cons_zero, List.set_cons_succ, i64_w, i32_w]; rfl))
        refine done_ (done_of HT_.out (by kernel_rfl)) ?_
        clear hHeld2 HT_ HW_ HC
        go_wp2
        go_ret
        exact ⟨by rw [HZ.out]; first | done | rfl, below_step HB5.out HB7.out⟩
      | true =>
        have HO := Lib.hid hb
        clear hb
        by_cases h0 : i = 0
        · have hp1 : (0 < (i : Int)) = False := eq_false (by omega)
          have hp2 : (0 < i) = False := eq_false (by omega)
          have HI0 := Lib.hid h0
          clear h0
          refine norm_ (a' := ?_) ?_ ?_
          rotate_left
          · simp only [Act.put, List.setIfInBounds_toArray, List.set_cons_zero, List.set_cons_succ, i64_w, i32_w]; rfl
          repeat (apply takeA_ HT_.out HW_.out [4, 5, 6, 7, 8, 9, 10, 11, 12, 13, 14, 15, 16, 17, 18]; (case hn => exact rfl); (case hi0 => exact rfl); (case hl => simp only [List.setIfInBounds_toArray, List.set_cons_zero, List.set_cons_succ]; rfl); (case hQ => exact fun _ _ _ h => h); (case hy => first | exact Or.inr ⟨by rfl, rfl⟩ | (refine Or.inl ⟨by rfl, ?_⟩; intro w_ hS_; go_simp; with_reducible rfl)); (case hS => exact hHeld2); (case ha => simp only [Act.put, List.setIfInBounds_toArray, List.set_cons_zero, List.set_cons_succ, i64_w, i32_w]; rfl))
          refine done_ (done_of HT_.out (by kernel_rfl)) ?_
          clear hHeld2 HT_ HW_
          have ht : (xs.take i).length = i := by rw [List.length_take]; omega
          obtain ⟨q, hq, hqa⟩ := idx_any (fun x : IObj => x.f2 == xs[i].f2) (xs.take i) 0
          have hua : uidOld xs i = (xs.take i).any (fun x : IObj => x.f2 == xs[i].f2) := by unfold uidOld; rw [oAt_eq hil]
          have HQ := Lib.hid hq
          have HQA := Lib.hid (hqa.trans hua.symm)
          have HCF := Lib.hid (fun (W : World) (hW : Below w5.heap.size w5 W) => slices_ContainsFunc_simpl_Obj_impl_Obj.calls k46 rfl 125 (fun _ _ => by kernel_rfl) #[.pointer (some ⟨wr.heap.size, 0, none⟩)] (fun x : IObj => some (x.f2 == xs[i].f2)) (some ad) c (xs.take i) q W (by rw [ht]; exact C_take (Kd.C_below HR.out (below_step HB5.out hW)) hi) (by rw [ht]; omega) (fun x cs' b W' hx hp hk hb' => by
            obtain rfl := Option.some.inj hp
            exact objsOk1_calls x xs[i] cs' cs _ W' hk ((k46 : Kd IObj).K_below (below_step (below_step HB5.out hW) hb') HK.out) (((below_step hW hb').block _ (blk_lt HZB.out)).trans HZB.out)) HQ.out)
          rw [ht] at HCF
          clear hq hqa hua ht
          go_wp2_with fail
          (with_reducible refine (HCF.out _ HB7.out).mono ?_)
          rintro e w8 ⟨rfl, hb8⟩
          rw [HQA.out]
          have HB8 := Lib.hid (below_step HB5.out (below_step HB7.out hb8))
          clear hb8
          cases hu : uidOld xs i with
          | true =>
            have HZ := Lib.hid (objsB_bad (rev := rev) (next := next) hil (by unfold objsAt; rw [hu]; simp))
            clear hu HQA HCF
            go_wp2
            go_ret
            exact ⟨by rw [HZ.out]; first | done | rfl, HB8.out⟩
          | false =>
            have hat : objsAt xs rev next i = true := by
              unfold objsAt
              rw [oAt_eq hil, HO.out, hu]
              simp [HI0.out]
            have HOK2 : Hid (∀ j, j < i + 1 → objsAt xs rev next j = true) := Lib.hid (fun j hj => by
              rcases Nat.lt_succ_iff_lt_or_eq.1 hj with h | h
              · exact HOK.out j h
              · rw [h]; exact hat)
            clear hat hu HQA HCF
            go_wp2
            go_roundw
            case rel => exact ⟨i + 1, by omega, by go_num, HOK2, HB8⟩
            case measure => simp [intOf]; omega
        · obtain ⟨j0, hj0⟩ : ∃ j0, i = j0 + 1 := ⟨i - 1, by omega⟩
          have hjl : j0 < xs.length := by omega
          obtain ⟨ae, ds, hae, hds, hL, hdell⟩ := row_at HR.out j0 hjl
          obtain rfl := Option.some.inj hae
          have hsz : (k46 : Kd IObj).sz = 17 := rfl
          rw [hsz] at hdell hds
          have HL := Lib.hid hL
          have HD := Lib.hid hdell
          have HDS := Lib.hid hds
          have hw1 : (i : Int) - 1 = (j0 : Int) := by omega
          have hw3 : wrap64 (j0 : Int) = (j0 : Int) := w64 (by omega) (by omega)
          have hp1 : (0 < (i : Int)) = True := eq_true (by omega)
          have hp2 : (0 < i) = True := eq_true (by omega)
          have HJ0 := Lib.hid hj0
          clear hae hds hL hdell hsz
          clear hj0 h0
          refine norm_ (a' := ?_) ?_ ?_
          rotate_left
          · simp only [Act.put, List.setIfInBounds_toArray, List.set_cons_zero, List.set_cons_succ, i64_w, i32_w]; rfl
          repeat (apply takeA_ HT_.out HW_.out [4, 5, 6, 7, 8, 9, 10, 11, 12, 13, 14]; (case hn => exact rfl); (case hi0 => exact rfl); (case hl => simp only [List.setIfInBounds_toArray, List.set_cons_zero, List.set_cons_succ]; rfl); (case hQ => exact fun _ _ _ h => h); (case hy => first | exact Or.inr ⟨by rfl, rfl⟩ | (exact yield_row (ad := ⟨wr.heap.size, 0, none⟩) (cs := cs) (by rfl) rfl rfl (fun w_ hS_ => blk_row' ((hS_.block _ (blk_lt HZB.out)).trans HZB.out)) Try.underlying46 rfl (by rw [HCS.out]; kernel_rfl)) | (exact yield_row (ad := ad.add (j0 * 17)) (cs := ds) (by rfl) rfl rfl (fun w_ hS_ => (fun w_ h_ => HD.out w_ (below_step HB5.out h_)) w_ hS_) Try.underlying46 rfl (by rw [HDS.out]; kernel_rfl)) | (refine Or.inl ⟨by rfl, ?_⟩; intro w_ hS_; go_simp; with_reducible rfl)); (case hS => exact hHeld2); (case ha => simp only [Act.put, List.setIfInBounds_toArray, List.set_cons_zero, List.set_cons_succ, i64_w, i32_w]; rfl))
          refine callA_ (i := 15) (l' := ?_) HT_.out rfl rfl ?_ (by decide) Try.func120 (by kernel_rfl) rfl (by rfl) rfl (by (try simp only [List.map_toArray, List.map_cons, List.map_nil]); first | done | rfl) (cmpO_calls xs[j0] xs[i] ds cs w7 ((k46 : Kd IObj).K_below (below_step HB5.out hHeld2) HL.out) ((k46 : Kd IObj).K_below (below_step HB5.out hHeld2) HK.out)) ?_
          rotate_left
          · simp only [List.setIfInBounds_toArray, List.set_cons_zero, List.set_cons_succ]; rfl
          rintro e w9 ⟨rfl, hb9⟩
          have hHeld2b := below_step HB7.out hb9
          refine ⟨_, rfl, hHeld2b, ?_⟩
          have HB9 := Lib.hid hHeld2b
          clear hb9 hHeld2 HB7
          have hHeld2 := HB9.out
          clear hHeld2b
          have hcl := cmpO_less xs[j0] xs[i]
          cases hlb : lessB xs[j0] xs[i] with
          | false =>
            have HZ := Lib.hid (objsB_bad (rev := rev) (next := next) hil (by unfold objsAt; rw [oAt_eq hil, show i - 1 = j0 by have := HJ0.out; omega, oAt_eq hjl, hlb]; simp [HJ0.out]))
            have hc0 : (0 ≤ cmpO xs[j0] xs[i]) = True := eq_true (hcl.2 hlb)
            clear hlb hcl
            refine norm_ (a' := ?_) ?_ ?_
            rotate_left
            · simp only [Act.put, List.setIfInBounds_toArray, List.set_cons_zero, List.set_cons_succ, i64_w, i32_w]; rfl
            repeat (apply takeA_ HT_.out HW_.out [16, 17, 18]; (case hn => exact rfl); (case hi0 => exact rfl); (case hl => simp only [List.setIfInBounds_toArray, List.set_cons_zero, List.set_cons_succ]; rfl); (case hQ => exact fun _ _ _ h => h); (case hy => first | exact Or.inr ⟨by rfl, rfl⟩ | (refine Or.inl ⟨by rfl, ?_⟩; intro w_ hS_; go_simp; with_reducible rfl)); (case hS => exact hHeld2); (case ha => simp only [Act.put, List.setIfInBounds_toArray, List.set_cons_zero, List.set_cons_succ, i64_w, i32_w]; rfl))
            refine done_ (done_of HT_.out (by kernel_rfl)) ?_
            clear hHeld2 HT_ HW_ HC HD
            go_wp2
            go_ret
            exact ⟨by rw [HZ.out]; first | done | rfl, below_step HB5.out HB9.out⟩
          | true =>
            have HLB := Lib.hid hlb
            have hc0 : (0 ≤ cmpO xs[j0] xs[i]) = False := eq_false (fun h => by rw [hcl.1 h] at hlb; cases hlb)
            clear hlb hcl
            refine norm_ (a' := ?_) ?_ ?_
            rotate_left
            · simp only [Act.put, List.setIfInBounds_toArray, List.set_cons_zero, List.set_cons_succ, i64_w, i32_w]; rfl
            repeat (apply takeA_ HT_.out HW_.out [16, 17, 18]; (case hn => exact rfl); (case hi0 => exact rfl); (case hl => simp only [List.setIfInBounds_toArray, List.set_cons_zero, List.set_cons_succ]; rfl); (case hQ => exact fun _ _ _ h => h); (case hy => first | exact Or.inr ⟨by rfl, rfl⟩ | (refine Or.inl ⟨by rfl, ?_⟩; intro w_ hS_; go_simp; with_reducible rfl)); (case hS => exact hHeld2); (case ha => simp only [Act.put, List.setIfInBounds_toArray, List.set_cons_zero, List.set_cons_succ, i64_w, i32_w]; rfl))
            refine done_ (done_of HT_.out (by kernel_rfl)) ?_
            clear hHeld2 HT_ HW_
            have ht : (xs.take i).length = i := by rw [List.length_take]; omega
            obtain ⟨q, hq, hqa⟩ := idx_any (fun x : IObj => x.f2 == xs[i].f2) (xs.take i) 0
            have hua : uidOld xs i = (xs.take i).any (fun x : IObj => x.f2 == xs[i].f2) := by unfold uidOld; rw [oAt_eq hil]
            have HQ := Lib.hid hq
            have HQA := Lib.hid (hqa.trans hua.symm)
            have HCF := Lib.hid (fun (W : World) (hW : Below w5.heap.size w5 W) => slices_ContainsFunc_simpl_Obj_impl_Obj.calls k46 rfl 125 (fun _ _ => by kernel_rfl) #[.pointer (some ⟨wr.heap.size, 0, none⟩)] (fun x : IObj => some (x.f2 == xs[i].f2)) (some ad) c (xs.take i) q W (by rw [ht]; exact C_take (Kd.C_below HR.out (below_step HB5.out hW)) hi) (by rw [ht]; omega) (fun x cs' b W' hx hp hk hb' => by
              obtain rfl := Option.some.inj hp
              exact objsOk1_calls x xs[i] cs' cs _ W' hk ((k46 : Kd IObj).K_below (below_step (below_step HB5.out hW) hb') HK.out) (((below_step hW hb').block _ (blk_lt HZB.out)).trans HZB.out)) HQ.out)
            rw [ht] at HCF
            clear hq hqa hua ht
            go_wp2_with fail
            (with_reducible refine (HCF.out _ HB9.out).mono ?_)
            rintro e w8 ⟨rfl, hb8⟩
            rw [HQA.out]
            have HB8 := Lib.hid (below_step HB5.out (below_step HB9.out hb8))
            clear hb8
            cases hu : uidOld xs i with
            | true =>
              have HZ := Lib.hid (objsB_bad (rev := rev) (next := next) hil (by unfold objsAt; rw [hu]; simp))
              clear hu HQA HCF
              go_wp2
              go_ret
              exact ⟨by rw [HZ.out]; first | done | rfl, HB8.out⟩
            | false =>
              have hat : objsAt xs rev next i = true := by
                unfold objsAt
                rw [oAt_eq hil, HO.out, hu]
                rw [show i - 1 = j0 by have := HJ0.out; omega, oAt_eq hjl, HLB.out]; simp
              have HOK2 : Hid (∀ j, j < i + 1 → objsAt xs rev next j = true) := Lib.hid (fun j hj => by
                rcases Nat.lt_succ_iff_lt_or_eq.1 hj with h | h
                · exact HOK.out j h
                · rw [h]; exact hat)
              clear hat hu HQA HCF
              go_wp2
              go_roundw
              case rel => exact ⟨i + 1, by omega, by go_num, HOK2, HB8⟩
              case measure => simp [intOf]; omega
    · obtain rfl : i = xs.length := by omega
      have HZ := Lib.hid (objsB_end HOK.out)
      go_wp2
      go_ret
      exact ⟨by rw [HZ.out]; first | done | rfl, HB.out⟩
end Go.Proofs.Ytmoiacijklkfaaa.G
