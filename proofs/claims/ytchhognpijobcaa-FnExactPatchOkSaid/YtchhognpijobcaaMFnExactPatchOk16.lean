import Derived.Test.YtchhognpijobcaaMFnExactPatchOk1
import Derived.Test.YtchhognpijobcaaMFnExactPatchOk10
import Derived.Test.YtchhognpijobcaaMFnExactPatchOk7
import Derived.Test.YtchhognpijobcaaMFnExactPatchOk12
import Derived.Test.YtchhognpijobcaaMFnExactPatchOk15
import Derived.Test.YtchhognpijobcaaMFnExactPatchOk13
import Derived.Test.YtchhognpijobcaaMFnExactPatchOk14
/- G18 -/
-- Laid by wip/g/gprint.py out of the translation, by the kit's print program. Lean checks it.
namespace Go.Proofs.Ytchhognpijobcaa.G
open Go.RowKit Go.Proofs.YtchhognpijobcaaW.PrintWords Go.Proofs.YtchhognpijobcaaW.PrintLast Go.Proofs.YtchhognpijobcaaW.PrintMore
attribute [local go_sem] max2_int min2_int max_two min_two max_three min_three max_four min_four   -- for this text's walks alone
set_option linter.unusedVariables false
set_option linter.unusedSimpArgs false

/-! ### impl_ValueOk: function 18 -/
def impl_ValueOk.f (k : Nat) (a0_0 : Int) (a0_1 : ByteArray) (a0_2 : Int) (l0_3 : List ByteArray) (l0_4 : List (S30)) : Option (Bool) := (impl_measured.f k a0_0 a0_1 a0_2 l0_3 l0_4 6).bind fun t248 => (some (decide (t248 ≤ 300)))
theorem impl_ValueOk.mono : ∀ a0 a1 a2 a3 a4 k, LeO (impl_ValueOk.f k a0 a1 a2 a3 a4) (impl_ValueOk.f (k + 1) a0 a1 a2 a3 a4) := by
  intro a0 a1 a2 a3 a4 k
  unfold impl_ValueOk.f
  repeat' first
      | (with_reducible exact impl_measured.mono _ _ _ _ _ _ _)
      | (with_reducible exact LeO.refl _)
      | (with_reducible exact LeO.none _)
      | (with_reducible refine LeO.ite ?_ ?_)
      | (with_reducible refine LeO.bind ?_ (fun _ => ?_))
      | exact impl_measured.mono _ _ _ _ _ _ _
      | exact LeO.none _
      | refine LeO.ite ?_ ?_
      | refine LeO.bind ?_ (fun _ => ?_)
set_option maxHeartbeats 8000000 in
set_option maxRecDepth 100000 in
theorem impl_ValueOk.calls (k : Nat) (a0_0 : Int) (a0_1 : ByteArray) (a0_2 : Int) (A0_3 : Option Addr) (c0_3 : Nat) (l0_3 : List ByteArray) (A0_4 : Option Addr) (c0_4 : Nat) (l0_4 : List (S30)) (r : Bool) (w : World) (hr0_3 : Kd.C Kd.string w A0_3 l0_3.length l0_3) (hc0_3 : l0_3.length ≤ c0_3) (hr0_4 : Kd.C k30 w A0_4 l0_4.length l0_4) (hc0_4 : l0_4.length ≤ c0_4) (h : impl_ValueOk.f k a0_0 a0_1 a0_2 l0_3 l0_4 = some r) :
    Calls Try.prog 18 #[.agg #[.int .i64 a0_0, .string a0_1, .int .i64 a0_2, .slice A0_3 l0_3.length c0_3, .slice A0_4 l0_4.length c0_4]] w fun e w' => e = .returned (.bool r) ∧ Below w.heap.size w w' := by
  have hu30 := Try.underlying30
  have HR0_3 := Aside0.mk hr0_3
  have HC0_3 := Aside0.mk hc0_3
  clear hr0_3 hc0_3
  have HR0_4 := Aside0.mk hr0_4
  have HC0_4 := Aside0.mk hc0_4
  clear hr0_4 hc0_4
  have HB := Aside0.mk (Below.refl w.heap.size w)
  have H : ((impl_measured.f k a0_0 a0_1 a0_2 l0_3 l0_4 6).bind fun t248 => (some (decide (t248 ≤ 300)))) = some r := h
  clear h
  replace H := Option.bind_eq_some_iff.mp H
  obtain ⟨t248, A20, H⟩ := H
  replace H : (some (decide (t248 ≤ 300))) = some r := H
  have A2 := Aside0.mk A20
  clear A20
  obtain rfl := Option.some.inj H
  go_enter Try.func18, Try.ntmps18
  go_wp2_with (first | ((with_reducible refine gate_dst (N := 1) rfl ?_); refine box_event ?hg (N := 1) ?hd (cs := #[.int .i64 a0_0, .string a0_1, .int .i64 a0_2, .slice A0_3 l0_3.length c0_3, .slice A0_4 l0_4.length c0_4]) (t := 30) ?hr ?_; (case hd => rfl); (case hg => rfl); (case hr => first | (go_simp; done) | (go_simp; rfl)); intro gb247 hg w3 hbox hb; have n0_ := Aside0.mk (below_step (by repeat (first | (with_reducible first | exact HB.out | apply below_alloc | apply pw_below_drewN | apply below_drew1) | exact HB.out)) hb); have n1_ := Aside0.mk (hbox); have n2_ := Aside0.mk ((by rw [hg]; exact (below_size (by repeat (first | (with_reducible first | exact HB.out | apply below_alloc | apply pw_below_drewN | apply below_drew1) | exact HB.out))) : w.heap.size ≤ gb247)); have n3_ := Aside0.mk ((by rw [hg]; exact (below_size (by repeat (first | (with_reducible first | exact HB.out | apply below_alloc | apply pw_below_drewN | apply below_drew1) | exact HB.out))) : w.heap.size ≤ gb247)); clear HB; have HB := n0_; have BK247 := n1_; have GW247 := n2_; have GE247 := n3_; clear n0_ n1_ n2_ n3_; clear hb hbox hg; have hcz4_0 : w3.cell? ⟨gb247, 0, none⟩ = some (.int .i64 a0_0) := (blk_cell BK247.out 0).trans rfl; have hcz4_1 : w3.cell? ⟨gb247, 1, none⟩ = some (.string a0_1) := (blk_cell BK247.out 1).trans rfl; have hcz4_2 : w3.cell? ⟨gb247, 2, none⟩ = some (.int .i64 a0_2) := (blk_cell BK247.out 2).trans rfl; have hcz4_3 : w3.cell? ⟨gb247, 3, none⟩ = some (.slice A0_3 l0_3.length c0_3) := (blk_cell BK247.out 3).trans rfl; have hcz4_4 : w3.cell? ⟨gb247, 4, none⟩ = some (.slice A0_4 l0_4.length c0_4) := (blk_cell BK247.out 4).trans rfl; have hfz4_0 := blk_frozen BK247.out 0; have hfz4_1 := blk_frozen BK247.out 1; have hfz4_2 := blk_frozen BK247.out 2; have hfz4_3 := blk_frozen BK247.out 3; have hfz4_4 := blk_frozen BK247.out 4) | ((with_reducible refine gate_callee (f := 55) rfl ?_); refine goesL_ (some 4) rfl rfl Try.func55 (by kernel_rfl) rfl #[.agg #[.int .i64 a0_0, .string a0_1, .int .i64 a0_2, .slice A0_3 l0_3.length c0_3, .slice A0_4 l0_4.length c0_4], .int .i64 6] rfl (by (try simp only [List.map_toArray, List.map_cons, List.map_nil]); first | done | rfl | (simp only [List.length_drop, List.length_take]; rfl)) ?_; (with_reducible refine (impl_measured.calls k a0_0 a0_1 a0_2 _ _ l0_3 _ _ l0_4 6 t248 _ ?side1 ?side2 ?side3 ?side4 A2.out).mono ?_); (case side1 => repeat (first | exact (Kd.C_below HR0_3.out HB.out) | (with_reducible refine Kd.C_alloc ?_ _) | (with_reducible refine Kd.C_drewN ?_ _) | (with_reducible refine Kd.C_drew ?_))); (case side2 => exact HC0_3.out); (case side3 => repeat (first | exact (Kd.C_below HR0_4.out HB.out) | (with_reducible refine Kd.C_alloc ?_ _) | (with_reducible refine Kd.C_drewN ?_ _) | (with_reducible refine Kd.C_drew ?_))); (case side4 => exact HC0_4.out); rintro e w5 ⟨rfl, hb⟩; refine ⟨_, rfl, ?_⟩; have n0_ := Aside0.mk (blk_below (g := gb247) (o := .cells #[.int .i64 a0_0, .string a0_1, .int .i64 a0_2, .slice A0_3 l0_3.length c0_3, .slice A0_4 l0_4.length c0_4] 30 (0, 0)) (by (with_reducible repeat (first | refine blk_drewN ?_ _ | refine blk_drew ?_ | refine blk_alloc ?_ _)); exact BK247.out) hb); have n1_ := Aside0.mk (below_step (by repeat (first | (with_reducible first | exact HB.out | apply below_alloc | apply pw_below_drewN | apply below_drew1 | refine below_set ?_ GE247.out) | exact HB.out)) hb); clear BK247; clear HB; have BK247 := n0_; have HB := n1_; clear n0_ n1_; (try clear hb); (try clear hb2); (try clear hk); (try clear hi)))
  go_ret
  exact ⟨by first | rfl | (simp [errW_none, errW_some] <;> rfl) | (simp [*, errW_none, errW_some] <;> rfl), by repeat (first | (with_reducible first | exact HB.out | apply below_alloc | apply pw_below_drewN | apply below_drew1 | refine below_set ?_ GE247.out) | exact HB.out)⟩

end Go.Proofs.Ytchhognpijobcaa.G

/- G115 -/
-- Laid by wip/g/gprint.py out of the translation, by the kit's print program. Lean checks it.
namespace Go.Proofs.Ytchhognpijobcaa.G
open Go.RowKit Go.Proofs.YtchhognpijobcaaW.PrintWords Go.Proofs.YtchhognpijobcaaW.PrintLast Go.Proofs.YtchhognpijobcaaW.PrintMore
attribute [local go_sem] max2_int min2_int max_two min_two max_three min_three max_four min_four   -- for this text's walks alone
set_option linter.unusedVariables false
set_option linter.unusedSimpArgs false

/-! ### slices_IndexFunc_sstring_string: function 115 -/
set_option maxRecDepth 100000 in
theorem slices_IndexFunc_sstring_string.calls {α : Type} (d : Kd α) (hd : d.sz = 1) (kf : Nat) (hkf : ∀ (zs : Array Value) (W : World), (callFunc kf zs).run Try.prog W = .ok (.enter kf zs) W) (caps : Array Value) (p : α → Option Bool) (A0 : Option Addr) (c0 : Nat) (l0 : List α) (r : Int) (w : World) (hr0 : Kd.C d w A0 l0.length l0) (hc0 : l0.length ≤ c0)
    (hf : ∀ (x : α) (cs : List Value) (b : Bool) (W : World), x ∈ l0 → p x = some b → d.K W x cs → Below w.heap.size w W → Calls Try.prog kf (#[((cs).headD undef)] ++ caps) W fun e w' => e = .returned (.bool b) ∧ Below W.heap.size W w') (h : idxO p l0 0 = some r) :
    Calls Try.prog 115 #[.slice A0 l0.length c0, .func (.func kf) #[] caps] w fun e w' => e = .returned (.int .i64 r) ∧ Below w.heap.size w w' := by
  have hm : l0.length ≤ 9223372036854775807 := hr0.2.1
  have HR := Lib.hid hr0
  have HF := Lib.hid hf
  have HH := Lib.hid h
  have HD := Lib.hid hd
  clear hr0 hf h hd
  go_enter Try.func115, Try.ntmps115
  go_wp2
  go_loopw [5, 8] (fun _ i wr => ∃ k : Nat, k ≤ l0.length ∧ i = .int .i64 k ∧ Hid (idxO p (l0.drop k) k = some r) ∧ Hid (Below w.heap.size w wr)) (fun _ i _ => l0.length - (intOf i).toNat)
  case atStart => exact ⟨0, by omega, rfl, HH, Below.refl _ _⟩
  case round =>
    obtain ⟨k, hk, rfl, HE, HB⟩ := hrel
    by_cases hlt : k < l0.length
    · obtain ⟨b, hp, hb1, hb2⟩ := idxO_step hlt HE.out
      have HP := Lib.hid hp
      have B1 := Lib.hid hb1
      have B2 := Lib.hid hb2
      clear hp hb1 hb2
      obtain ⟨ad, cs, rfl, hcs, hK, hcell⟩ := Kd.C_get HR.out l0[k] (k : Int) (by omega) (by omega)
      rw [HD.out] at hcs hcell
      obtain ⟨y0, rfl⟩ : ∃ y0, cs = [y0] := by match cs, hcs with | [y0], _ => exact ⟨y0, rfl⟩
      clear hcs
      simp only [Int.toNat_natCast, getD_at hlt] at hK hcell
      have HK := Lib.hid (d.K_below HB.out hK)
      clear hK
      have d0 := pw_cell_below HB.out (hcell 0 y0 rfl)
      clear hcell
      simp only [Nat.add_zero, Nat.mul_one] at d0
      cases b
      · have B3 := Lib.hid (B2.out rfl)
        clear B1 B2
        go_wp2_with fail
        refine (HF.out l0[k] _ _ _ (List.getElem_mem hlt) HP.out HK.out HB.out).mono ?_
        rintro e w' ⟨rfl, hbx⟩
        have HB2 := hid_below HB hbx
        clear hbx
        go_wp2
        go_roundw
        case rel => exact ⟨k + 1, by omega, by go_num, B3, HB2⟩
        case measure => simp [intOf]; omega
      · have B3 := Lib.hid (B1.out rfl)
        clear B1 B2
        go_wp2_with fail
        refine (HF.out l0[k] _ _ _ (List.getElem_mem hlt) HP.out HK.out HB.out).mono ?_
        rintro e w' ⟨rfl, hbx⟩
        have HB2 := hid_below HB hbx
        clear hbx
        go_wp2
        go_ret
        obtain rfl := B3.out
        exact ⟨rfl, HB2.out⟩
    · obtain rfl : k = l0.length := by omega
      go_wp2
      go_ret
      exact ⟨by rw [idxO_end HE.out]; rfl, HB.out⟩

end Go.Proofs.Ytchhognpijobcaa.G

/- G97 -/
-- Laid by wip/g/gprint.py out of the translation, by the kit's print program. Lean checks it.
namespace Go.Proofs.Ytchhognpijobcaa.G
open Go.RowKit Go.Proofs.YtchhognpijobcaaW.PrintWords Go.Proofs.YtchhognpijobcaaW.PrintLast Go.Proofs.YtchhognpijobcaaW.PrintMore
attribute [local go_sem] max2_int min2_int max_two min_two max_three min_three max_four min_four   -- for this text's walks alone
set_option linter.unusedVariables false
set_option linter.unusedSimpArgs false

/-! ### slices_ContainsFunc_sstring_string: function 97 -/
theorem slices_ContainsFunc_sstring_string.calls {α : Type} (d : Kd α) (hd : d.sz = 1) (kf : Nat) (hkf : ∀ (zs : Array Value) (W : World), (callFunc kf zs).run Try.prog W = .ok (.enter kf zs) W) (caps : Array Value) (p : α → Option Bool) (A0 : Option Addr) (c0 : Nat) (l0 : List α) (r : Int) (w : World) (hr0 : Kd.C d w A0 l0.length l0) (hc0 : l0.length ≤ c0)
    (hf : ∀ (x : α) (cs : List Value) (b : Bool) (W : World), x ∈ l0 → p x = some b → d.K W x cs → Below w.heap.size w W → Calls Try.prog kf (#[((cs).headD undef)] ++ caps) W fun e w' => e = .returned (.bool b) ∧ Below W.heap.size W w') (h : idxO p l0 0 = some r) :
    Calls Try.prog 97 #[.slice A0 l0.length c0, .func (.func kf) #[] caps] w fun e w' => e = .returned (.bool (decide (0 ≤ r))) ∧ Below w.heap.size w w' := by
  have HR := Lib.hid hr0
  have HF := Lib.hid hf
  have HH := Lib.hid h
  have HD := Lib.hid hd
  clear hr0 hf h hd
  go_enter Try.func97, Try.ntmps97
  go_wp2_with fail
  refine (slices_IndexFunc_sstring_string.calls d HD.out kf hkf caps p A0 c0 l0 r _ HR.out hc0 HF.out HH.out).mono ?_
  rintro e w' ⟨rfl, hb⟩
  have HB := Lib.hid hb
  clear hb
  go_wp2
  go_ret
  exact ⟨rfl, HB.out⟩

end Go.Proofs.Ytchhognpijobcaa.G

/- G98 -/
-- Laid by wip/g/gprint.py out of the translation, by the kit's print program. Lean checks it.
namespace Go.Proofs.Ytchhognpijobcaa.G
open Go.RowKit Go.Proofs.YtchhognpijobcaaW.PrintWords Go.Proofs.YtchhognpijobcaaW.PrintLast Go.Proofs.YtchhognpijobcaaW.PrintMore
attribute [local go_sem] max2_int min2_int max_two min_two max_three min_three max_four min_four   -- for this text's walks alone
set_option linter.unusedVariables false
set_option linter.unusedSimpArgs false

/-! ### impl_opOk_1: function 98 -/
def impl_opOk_1.f (k : Nat) (a0 : ByteArray) : Option (Bool) := (impl_NameOk.f k a0).bind fun t468 => (if t468 = true then (some false) else ((impl_isNumber.f k a0).bind fun t469 => (some (!t469))))
theorem impl_opOk_1.mono : ∀ a0 k, LeO (impl_opOk_1.f k a0) (impl_opOk_1.f (k + 1) a0) := by
  intro a0 k
  unfold impl_opOk_1.f
  repeat' first
      | (with_reducible exact impl_NameOk.mono _ _)
      | (with_reducible exact impl_isNumber.mono _ _)
      | (with_reducible exact LeO.refl _)
      | (with_reducible exact LeO.none _)
      | (with_reducible refine LeO.ite ?_ ?_)
      | (with_reducible refine LeO.bind ?_ (fun _ => ?_))
      | exact impl_NameOk.mono _ _
      | exact impl_isNumber.mono _ _
      | exact LeO.none _
      | refine LeO.ite ?_ ?_
      | refine LeO.bind ?_ (fun _ => ?_)
set_option maxHeartbeats 8000000 in
set_option maxRecDepth 100000 in
theorem impl_opOk_1.calls (k : Nat) (a0 : ByteArray) (r : Bool) (w : World) (h : impl_opOk_1.f k a0 = some r) :
    Calls Try.prog 98 #[.string a0] w fun e w' => e = .returned (.bool r) ∧ Drawn0 w w' := by
  have H : ((impl_NameOk.f k a0).bind fun t468 => (if t468 = true then (some false) else ((impl_isNumber.f k a0).bind fun t469 => (some (!t469))))) = some r := h
  clear h
  replace H := Option.bind_eq_some_iff.mp H
  obtain ⟨t468, A20, H⟩ := H
  replace H : (if t468 = true then (some false) else ((impl_isNumber.f k a0).bind fun t469 => (some (!t469)))) = some r := H
  have A2 := Aside0.mk A20
  clear A20
  by_cases c3 : t468 = true
  · subst c3
    have H1 : (some false) = some r := by rw [if_pos rfl] at H; exact H
    clear H
    have H := H1
    clear H1
    obtain rfl := Option.some.inj H
    go_enter Try.func98, Try.ntmps98
    go_wp2_with (first | ((with_reducible refine gate_callee (f := 99) rfl ?_); refine goesL_ (some 4) rfl rfl Try.func99 (by kernel_rfl) rfl #[.string a0] rfl (by (try simp only [List.map_toArray, List.map_cons, List.map_nil]); first | done | rfl | (simp only [List.length_drop, List.length_take]; rfl)) ?_; (with_reducible refine (impl_NameOk.calls k a0 true _ A2.out).mono ?_); rintro e w' ⟨rfl, ⟨nd, rfl⟩⟩; refine ⟨_, rfl, ?_⟩))
    go_ret
    exact ⟨by first | rfl | (simp; done) | (simp [*]; done), by repeat (first | exact Drawn0.refl _ | apply Drawn0.step)⟩
  · replace c3 := Bool.eq_false_iff.mpr c3
    subst c3
    have H1 : ((impl_isNumber.f k a0).bind fun t469 => (some (!t469))) = some r := by rw [if_neg (show ¬ (false = true) by decide)] at H; exact H
    clear H
    have H := H1
    clear H1
    replace H := Option.bind_eq_some_iff.mp H
    obtain ⟨t469, A40, H⟩ := H
    replace H : (some (!t469)) = some r := H
    have A4 := Aside0.mk A40
    clear A40
    obtain rfl := Option.some.inj H
    go_enter Try.func98, Try.ntmps98
    go_wp2_with (first | ((with_reducible refine gate_callee (f := 99) rfl ?_); refine goesL_ (some 4) rfl rfl Try.func99 (by kernel_rfl) rfl #[.string a0] rfl (by (try simp only [List.map_toArray, List.map_cons, List.map_nil]); first | done | rfl | (simp only [List.length_drop, List.length_take]; rfl)) ?_; (with_reducible refine (impl_NameOk.calls k a0 false _ A2.out).mono ?_); rintro e w' ⟨rfl, ⟨nd, rfl⟩⟩; refine ⟨_, rfl, ?_⟩) | (go_at_call 100; (with_reducible refine (impl_isNumber.calls k a0 t469 _ A4.out).mono ?_); rintro e w' ⟨rfl, ⟨nd, rfl⟩⟩))
    go_ret
    exact ⟨by first | rfl | (simp; done) | (simp [*]; done), by repeat (first | exact Drawn0.refl _ | apply Drawn0.step)⟩

end Go.Proofs.Ytchhognpijobcaa.G

/- G67 -/
-- Laid by wip/g/gprint.py out of the translation, by the kit's print program. Lean checks it.
namespace Go.Proofs.Ytchhognpijobcaa.G
open Go.RowKit Go.Proofs.YtchhognpijobcaaW.PrintWords Go.Proofs.YtchhognpijobcaaW.PrintLast Go.Proofs.YtchhognpijobcaaW.PrintMore
attribute [local go_sem] max2_int min2_int max_two min_two max_three min_three max_four min_four   -- for this text's walks alone
set_option linter.unusedVariables false
set_option linter.unusedSimpArgs false

/-! ### slices.ContainsFunc[[]string,string] at loop.example/g00119/impl.opOk$1 -/
def impl_opOk_h98.f (k : Nat) (l0 : List ByteArray) : Option Bool := (idxO (fun x => impl_opOk_1.f k x) l0 0).bind fun i => some (decide (0 ≤ i))
theorem impl_opOk_h98.mono (l0 : List ByteArray) (k : Nat) : LeO (impl_opOk_h98.f k l0) (impl_opOk_h98.f (k + 1) l0) := LeO.bind (idxO_mono (fun x => impl_opOk_1.mono _ _) _ _) (fun _ => LeO.refl _)
theorem impl_opOk_h98.calls (k : Nat) (A0 : Option Addr) (c0 : Nat) (l0 : List ByteArray) (r : Bool) (w : World) (hr0 : Kd.C Kd.string w A0 l0.length l0) (hc0 : l0.length ≤ c0) (h : impl_opOk_h98.f k l0 = some r) :
    Calls Try.prog 97 #[.slice A0 l0.length c0, .func (.func 98) #[] #[]] w fun e w' => e = .returned (.bool r) ∧ Below w.heap.size w w' := by
  unfold impl_opOk_h98.f at h
  obtain ⟨i, hi, hr⟩ := bind_some' h
  cases hr
  refine (slices_ContainsFunc_sstring_string.calls Kd.string rfl 98 (fun _ _ => by kernel_rfl) #[] _ A0 c0 l0 i w hr0 hc0 ?_ hi).mono ?_
  · intro x cs b W hx hp hk hb
    obtain rfl := hk
    exact (impl_opOk_1.calls k x b W  hp).mono fun e w' h_ => ⟨h_.1, by first | exact h_.2 | exact h_.2.below⟩
  · rintro e w2 ⟨rfl, hb2⟩
    exact ⟨rfl, hb2⟩
/-! ### impl_opOk: function 67 -/
mutual
def impl_opOk.j0 : Nat → Bool → Int → List ByteArray → Int → ByteArray → Int → List ByteArray → List (S30) → Option (Bool)
  | 0, _, _, _, _, _, _, _, _ => none
  | k + 1, x12, x471000, x471001, x471002, x471003, x471004, x471005, x471006 => if x12 = true then (some false) else (if x471000 = 1 then (impl_opOk.j1 k x471000 (x471000 == 1) x471000 x471001 x471002 x471003 x471004 x471005 x471006) else (impl_opOk.j1 k x471000 (x471000 == 3) x471000 x471001 x471002 x471003 x471004 x471005 x471006))
def impl_opOk.j1 : Nat → Int → Bool → Int → List ByteArray → Int → ByteArray → Int → List ByteArray → List (S30) → Option (Bool)
  | 0, _, _, _, _, _, _, _, _, _ => none
  | k + 1, x14, x15, x471000, x471001, x471002, x471003, x471004, x471005, x471006 => if x15 = true then ((impl_ValueOk.f k x471002 x471003 x471004 x471005 x471006).bind fun t473 => (some t473)) else (if x14 = 2 then ((impl_SameValue.f k x471002 x471003 x471004 x471005 x471006 0 (⟨#[]⟩ : ByteArray) 0 ([] : List ByteArray) ([] : List (S30))).bind fun t474 => (some t474)) else (some false))
end
def impl_opOk.f (k : Nat) (a0_0 : Int) (l0_1 : List ByteArray) (a0_2 : Int) (a0_3 : ByteArray) (a0_4 : Int) (l0_5 : List ByteArray) (l0_6 : List (S30)) : Option (Bool) := (impl_within.f (l0_1.length : Int) 1 5).bind fun t471 => (if t471 = true then ((impl_opOk_h98.f k l0_1).bind fun t472 => (impl_opOk.j0 k t472 a0_0 l0_1 a0_2 a0_3 a0_4 l0_5 l0_6)) else (impl_opOk.j0 k true a0_0 l0_1 a0_2 a0_3 a0_4 l0_5 l0_6))
theorem impl_opOk.mono_l : ∀ k, (∀ y0 y1 y2 y3 y4 y5 y6 y7, LeO (impl_opOk.j0 k y0 y1 y2 y3 y4 y5 y6 y7) (impl_opOk.j0 (k + 1) y0 y1 y2 y3 y4 y5 y6 y7)) ∧ (∀ y0 y1 y2 y3 y4 y5 y6 y7 y8, LeO (impl_opOk.j1 k y0 y1 y2 y3 y4 y5 y6 y7 y8) (impl_opOk.j1 (k + 1) y0 y1 y2 y3 y4 y5 y6 y7 y8))
  | 0 => ⟨fun _ _ _ _ _ _ _ _ r h => by simp [impl_opOk.j0] at h, fun _ _ _ _ _ _ _ _ _ r h => by simp [impl_opOk.j1] at h⟩
  | k + 1 => by
    obtain ⟨ih0, ih1⟩ := impl_opOk.mono_l k
    refine ⟨?_, ?_⟩
    · intro y0 y1 y2 y3 y4 y5 y6 y7
      unfold impl_opOk.j0
      repeat' first
      | (with_reducible exact ih0 _ _ _ _ _ _ _ _)
      | (with_reducible exact ih1 _ _ _ _ _ _ _ _ _)
      | (with_reducible exact impl_SameValue.mono _ _ _ _ _ _ _ _ _ _ _)
      | (with_reducible exact impl_ValueOk.mono _ _ _ _ _ _)
      | (with_reducible exact impl_opOk_h98.mono _ _)
      | (with_reducible exact LeO.refl _)
      | (with_reducible exact LeO.none _)
      | (with_reducible refine LeO.ite ?_ ?_)
      | (with_reducible refine LeO.bind ?_ (fun _ => ?_))
      | exact ih0 _ _ _ _ _ _ _ _
      | exact ih1 _ _ _ _ _ _ _ _ _
      | exact impl_SameValue.mono _ _ _ _ _ _ _ _ _ _ _
      | exact impl_ValueOk.mono _ _ _ _ _ _
      | exact impl_opOk_h98.mono _ _
      | exact LeO.none _
      | refine LeO.ite ?_ ?_
      | refine LeO.bind ?_ (fun _ => ?_)
    · intro y0 y1 y2 y3 y4 y5 y6 y7 y8
      unfold impl_opOk.j1
      repeat' first
      | (with_reducible exact ih0 _ _ _ _ _ _ _ _)
      | (with_reducible exact ih1 _ _ _ _ _ _ _ _ _)
      | (with_reducible exact impl_SameValue.mono _ _ _ _ _ _ _ _ _ _ _)
      | (with_reducible exact impl_ValueOk.mono _ _ _ _ _ _)
      | (with_reducible exact impl_opOk_h98.mono _ _)
      | (with_reducible exact LeO.refl _)
      | (with_reducible exact LeO.none _)
      | (with_reducible refine LeO.ite ?_ ?_)
      | (with_reducible refine LeO.bind ?_ (fun _ => ?_))
      | exact ih0 _ _ _ _ _ _ _ _
      | exact ih1 _ _ _ _ _ _ _ _ _
      | exact impl_SameValue.mono _ _ _ _ _ _ _ _ _ _ _
      | exact impl_ValueOk.mono _ _ _ _ _ _
      | exact impl_opOk_h98.mono _ _
      | exact LeO.none _
      | refine LeO.ite ?_ ?_
      | refine LeO.bind ?_ (fun _ => ?_)
theorem impl_opOk.mono : ∀ a0 a1 a2 a3 a4 a5 a6 k, LeO (impl_opOk.f k a0 a1 a2 a3 a4 a5 a6) (impl_opOk.f (k + 1) a0 a1 a2 a3 a4 a5 a6) := by
  intro a0 a1 a2 a3 a4 a5 a6 k
  obtain ⟨ih0, ih1⟩ := impl_opOk.mono_l k
  unfold impl_opOk.f
  repeat' first
      | (with_reducible exact ih0 _ _ _ _ _ _ _ _)
      | (with_reducible exact ih1 _ _ _ _ _ _ _ _ _)
      | (with_reducible exact impl_SameValue.mono _ _ _ _ _ _ _ _ _ _ _)
      | (with_reducible exact impl_ValueOk.mono _ _ _ _ _ _)
      | (with_reducible exact impl_opOk_h98.mono _ _)
      | (with_reducible exact LeO.refl _)
      | (with_reducible exact LeO.none _)
      | (with_reducible refine LeO.ite ?_ ?_)
      | (with_reducible refine LeO.bind ?_ (fun _ => ?_))
      | exact ih0 _ _ _ _ _ _ _ _
      | exact ih1 _ _ _ _ _ _ _ _ _
      | exact impl_SameValue.mono _ _ _ _ _ _ _ _ _ _ _
      | exact impl_ValueOk.mono _ _ _ _ _ _
      | exact impl_opOk_h98.mono _ _
      | exact LeO.none _
      | refine LeO.ite ?_ ?_
      | refine LeO.bind ?_ (fun _ => ?_)
set_option maxHeartbeats 8000000 in
set_option maxRecDepth 100000 in
theorem impl_opOk.calls (k : Nat) (a0_0 : Int) (A0_1 : Option Addr) (c0_1 : Nat) (l0_1 : List ByteArray) (a0_2 : Int) (a0_3 : ByteArray) (a0_4 : Int) (A0_5 : Option Addr) (c0_5 : Nat) (l0_5 : List ByteArray) (A0_6 : Option Addr) (c0_6 : Nat) (l0_6 : List (S30)) (r : Bool) (w : World) (hr0_1 : Kd.C Kd.string w A0_1 l0_1.length l0_1) (hc0_1 : l0_1.length ≤ c0_1) (hr0_5 : Kd.C Kd.string w A0_5 l0_5.length l0_5) (hc0_5 : l0_5.length ≤ c0_5) (hr0_6 : Kd.C k30 w A0_6 l0_6.length l0_6) (hc0_6 : l0_6.length ≤ c0_6) (h : impl_opOk.f k a0_0 l0_1 a0_2 a0_3 a0_4 l0_5 l0_6 = some r) :
    Calls Try.prog 67 #[.agg #[.int .i64 a0_0, .slice A0_1 l0_1.length c0_1, .int .i64 a0_2, .string a0_3, .int .i64 a0_4, .slice A0_5 l0_5.length c0_5, .slice A0_6 l0_6.length c0_6]] w fun e w' => e = .returned (.bool r) ∧ Below w.heap.size w w' := by
  have hu77 := Try.underlying77
  have hu30 := Try.underlying30
  have HR0_1 := Aside0.mk hr0_1
  have HC0_1 := Aside0.mk hc0_1
  clear hr0_1 hc0_1
  have HR0_5 := Aside0.mk hr0_5
  have HC0_5 := Aside0.mk hc0_5
  clear hr0_5 hc0_5
  have HR0_6 := Aside0.mk hr0_6
  have HC0_6 := Aside0.mk hc0_6
  clear hr0_6 hc0_6
  have HB := Aside0.mk (Below.refl w.heap.size w)
  have H : ((impl_within.f (l0_1.length : Int) 1 5).bind fun t471 => (if t471 = true then ((impl_opOk_h98.f k l0_1).bind fun t472 => (impl_opOk.j0 k t472 a0_0 l0_1 a0_2 a0_3 a0_4 l0_5 l0_6)) else (impl_opOk.j0 k true a0_0 l0_1 a0_2 a0_3 a0_4 l0_5 l0_6))) = some r := h
  clear h
  have HC2 := Aside0.mk H
  clear H
  go_enter Try.func67, Try.ntmps67
  go_upto_region 1 with (first | ((with_reducible refine gate_dst (N := 1) rfl ?_); refine box_event ?hg (N := 1) ?hd (cs := #[.int .i64 a0_0, .slice A0_1 l0_1.length c0_1, .int .i64 a0_2, .string a0_3, .int .i64 a0_4, .slice A0_5 l0_5.length c0_5, .slice A0_6 l0_6.length c0_6]) (t := 77) ?hr ?_; (case hd => rfl); (case hg => rfl); (case hr => first | (go_simp; done) | (go_simp; rfl)); intro gb470 hg w3 hbox hb; have n0_ := Aside0.mk (below_step (by repeat (first | (with_reducible first | exact HB.out | apply below_alloc | apply pw_below_drewN | apply below_drew1) | exact HB.out)) hb); have n1_ := Aside0.mk (hbox); have n2_ := Aside0.mk ((by rw [hg]; exact (below_size (by repeat (first | (with_reducible first | exact HB.out | apply below_alloc | apply pw_below_drewN | apply below_drew1) | exact HB.out))) : w.heap.size ≤ gb470)); have n3_ := Aside0.mk ((by rw [hg]; exact (below_size (by repeat (first | (with_reducible first | exact HB.out | apply below_alloc | apply pw_below_drewN | apply below_drew1) | exact HB.out))) : w.heap.size ≤ gb470)); clear HB; have HB := n0_; have BK470 := n1_; have GW470 := n2_; have GE470 := n3_; clear n0_ n1_ n2_ n3_; clear hb hbox hg))
  (try simp only [Act.put, List.setIfInBounds_toArray, List.set_cons_zero, List.set_cons_succ])
  go_cut [12] (fun v12 wc => ∃ (kq : Nat) (x12_1 : Bool), v12 = .bool x12_1 ∧ Aside0 (impl_opOk.j0 kq x12_1 a0_0 l0_1 a0_2 a0_3 a0_4 l0_5 l0_6 = some r) ∧ Aside0 (kq ≤ k) ∧ Aside0 (wc.heap[gb470]? = some (.cells #[.int .i64 a0_0, (.slice A0_1 l0_1.length c0_1), .int .i64 a0_2, .string a0_3, .int .i64 a0_4, (.slice A0_5 l0_5.length c0_5), (.slice A0_6 l0_6.length c0_6)] 77 (0, 0))) ∧ Aside0 (Below w.heap.size w wc))
  case first =>
    have H := HC2.out
    clear HC2
    replace H := Option.bind_eq_some_iff.mp H
    obtain ⟨t471, A40, H⟩ := H
    replace H : (if t471 = true then ((impl_opOk_h98.f k l0_1).bind fun t472 => (impl_opOk.j0 k t472 a0_0 l0_1 a0_2 a0_3 a0_4 l0_5 l0_6)) else (impl_opOk.j0 k true a0_0 l0_1 a0_2 a0_3 a0_4 l0_5 l0_6)) = some r := H
    have A4 := Aside0.mk A40
    clear A40
    by_cases c5 : t471 = true
    · subst c5
      have H1 : ((impl_opOk_h98.f k l0_1).bind fun t472 => (impl_opOk.j0 k t472 a0_0 l0_1 a0_2 a0_3 a0_4 l0_5 l0_6)) = some r := by rw [if_pos rfl] at H; exact H
      clear H
      have H := H1
      clear H1
      replace H := Option.bind_eq_some_iff.mp H
      obtain ⟨t472, A60, H⟩ := H
      replace H : (impl_opOk.j0 k t472 a0_0 l0_1 a0_2 a0_3 a0_4 l0_5 l0_6) = some r := H
      have A6 := Aside0.mk A60
      clear A60
      have H' := Aside0.mk H
      clear H
      have hcz7_0 : w3.cell? ⟨gb470, 0, none⟩ = some (.int .i64 a0_0) := (blk_cell BK470.out 0).trans rfl
      have hcz7_1 : w3.cell? ⟨gb470, 1, none⟩ = some (.slice A0_1 l0_1.length c0_1) := (blk_cell BK470.out 1).trans rfl
      have hcz7_2 : w3.cell? ⟨gb470, 2, none⟩ = some (.int .i64 a0_2) := (blk_cell BK470.out 2).trans rfl
      have hcz7_3 : w3.cell? ⟨gb470, 3, none⟩ = some (.string a0_3) := (blk_cell BK470.out 3).trans rfl
      have hcz7_4 : w3.cell? ⟨gb470, 4, none⟩ = some (.int .i64 a0_4) := (blk_cell BK470.out 4).trans rfl
      have hcz7_5 : w3.cell? ⟨gb470, 5, none⟩ = some (.slice A0_5 l0_5.length c0_5) := (blk_cell BK470.out 5).trans rfl
      have hcz7_6 : w3.cell? ⟨gb470, 6, none⟩ = some (.slice A0_6 l0_6.length c0_6) := (blk_cell BK470.out 6).trans rfl
      have hfz7_0 := blk_frozen BK470.out 0
      have hfz7_1 := blk_frozen BK470.out 1
      have hfz7_2 := blk_frozen BK470.out 2
      have hfz7_3 := blk_frozen BK470.out 3
      have hfz7_4 := blk_frozen BK470.out 4
      have hfz7_5 := blk_frozen BK470.out 5
      have hfz7_6 := blk_frozen BK470.out 6
      go_wp2_with (first | ((with_reducible refine gate_callee (f := 82) rfl ?_); refine goesL_ (some 6) rfl rfl Try.func82 (by kernel_rfl) rfl #[.int .i64 (l0_1.length : Int), .int .i64 1, .int .i64 5] rfl (by (try simp only [List.map_toArray, List.map_cons, List.map_nil]); first | done | rfl | (simp only [List.length_drop, List.length_take]; rfl)) ?_; (with_reducible refine (impl_within.calls (l0_1.length : Int) 1 5 true _ A4.out).mono ?_); rintro e w' ⟨rfl, ⟨nd, rfl⟩⟩; refine ⟨_, rfl, ?_⟩) | (go_at_call 97; (with_reducible refine (impl_opOk_h98.calls k _ _ l0_1 t472 _ ?side1 ?side2 A6.out).mono ?_); (case side1 => repeat (first | exact (Kd.C_below HR0_1.out (by repeat (first | (with_reducible first | exact HB.out | apply below_alloc | apply pw_below_drewN | apply below_drew1 | refine below_set ?_ GE470.out) | exact HB.out))) | (with_reducible refine Kd.C_alloc ?_ _) | (with_reducible refine Kd.C_drewN ?_ _) | (with_reducible refine Kd.C_drew ?_))); (case side2 => exact HC0_1.out); rintro e w8 ⟨rfl, hb⟩; have n0_ := Aside0.mk (blk_below (g := gb470) (o := .cells #[.int .i64 a0_0, .slice A0_1 l0_1.length c0_1, .int .i64 a0_2, .string a0_3, .int .i64 a0_4, .slice A0_5 l0_5.length c0_5, .slice A0_6 l0_6.length c0_6] 77 (0, 0)) (by (with_reducible repeat (first | refine blk_drewN ?_ _ | refine blk_drew ?_ | refine blk_alloc ?_ _)); exact BK470.out) hb); have n1_ := Aside0.mk (below_step (by repeat (first | (with_reducible first | exact HB.out | apply below_alloc | apply pw_below_drewN | apply below_drew1 | refine below_set ?_ GE470.out) | exact HB.out)) hb); clear BK470; clear HB; have BK470 := n0_; have HB := n1_; clear n0_ n1_; (try clear hb); (try clear hb2); (try clear hk); (try clear hi)))
      go_meet
      case rel => exact ⟨_, (t472), (by first | rfl | (simp; done) | (simp [*]; done)), H', ⟨by first | omega | exact Nat.le_refl _⟩, ⟨by (with_reducible repeat (first | refine blk_drewN ?_ _ | refine blk_drew ?_ | refine blk_alloc ?_ _)); exact BK470.out⟩, ⟨by repeat (first | (with_reducible first | exact HB.out | apply below_alloc | apply pw_below_drewN | apply below_drew1 | refine below_set ?_ GE470.out) | exact HB.out)⟩⟩
    · replace c5 := Bool.eq_false_iff.mpr c5
      subst c5
      have H1 : (impl_opOk.j0 k true a0_0 l0_1 a0_2 a0_3 a0_4 l0_5 l0_6) = some r := by rw [if_neg (show ¬ (false = true) by decide)] at H; exact H
      clear H
      have H := H1
      clear H1
      have H' := Aside0.mk H
      clear H
      have hcz9_0 : w3.cell? ⟨gb470, 0, none⟩ = some (.int .i64 a0_0) := (blk_cell BK470.out 0).trans rfl
      have hcz9_1 : w3.cell? ⟨gb470, 1, none⟩ = some (.slice A0_1 l0_1.length c0_1) := (blk_cell BK470.out 1).trans rfl
      have hcz9_2 : w3.cell? ⟨gb470, 2, none⟩ = some (.int .i64 a0_2) := (blk_cell BK470.out 2).trans rfl
      have hcz9_3 : w3.cell? ⟨gb470, 3, none⟩ = some (.string a0_3) := (blk_cell BK470.out 3).trans rfl
      have hcz9_4 : w3.cell? ⟨gb470, 4, none⟩ = some (.int .i64 a0_4) := (blk_cell BK470.out 4).trans rfl
      have hcz9_5 : w3.cell? ⟨gb470, 5, none⟩ = some (.slice A0_5 l0_5.length c0_5) := (blk_cell BK470.out 5).trans rfl
      have hcz9_6 : w3.cell? ⟨gb470, 6, none⟩ = some (.slice A0_6 l0_6.length c0_6) := (blk_cell BK470.out 6).trans rfl
      have hfz9_0 := blk_frozen BK470.out 0
      have hfz9_1 := blk_frozen BK470.out 1
      have hfz9_2 := blk_frozen BK470.out 2
      have hfz9_3 := blk_frozen BK470.out 3
      have hfz9_4 := blk_frozen BK470.out 4
      have hfz9_5 := blk_frozen BK470.out 5
      have hfz9_6 := blk_frozen BK470.out 6
      go_wp2_with (first | ((with_reducible refine gate_callee (f := 82) rfl ?_); refine goesL_ (some 6) rfl rfl Try.func82 (by kernel_rfl) rfl #[.int .i64 (l0_1.length : Int), .int .i64 1, .int .i64 5] rfl (by (try simp only [List.map_toArray, List.map_cons, List.map_nil]); first | done | rfl | (simp only [List.length_drop, List.length_take]; rfl)) ?_; (with_reducible refine (impl_within.calls (l0_1.length : Int) 1 5 false _ A4.out).mono ?_); rintro e w' ⟨rfl, ⟨nd, rfl⟩⟩; refine ⟨_, rfl, ?_⟩))
      go_meet
      case rel => exact ⟨_, (true), (by first | rfl | (simp; done) | (simp [*]; done)), H', ⟨by first | omega | exact Nat.le_refl _⟩, ⟨by (with_reducible repeat (first | refine blk_drewN ?_ _ | refine blk_drew ?_ | refine blk_alloc ?_ _)); exact BK470.out⟩, ⟨by repeat (first | (with_reducible first | exact HB.out | apply below_alloc | apply pw_below_drewN | apply below_drew1 | refine below_set ?_ GE470.out) | exact HB.out)⟩⟩
  case rest =>
    clear HC2
    try clear p2
    try clear c5
    try clear c6
    try clear c8
    try clear hcz7_0
    try clear hcz7_1
    try clear hcz7_2
    try clear hcz7_3
    try clear hcz7_4
    try clear hcz7_5
    try clear hcz7_6
    try clear hcz9_0
    try clear hcz9_1
    try clear hcz9_2
    try clear hcz9_3
    try clear hcz9_4
    try clear hcz9_5
    try clear hcz9_6
    try clear hfz7_0
    try clear hfz7_1
    try clear hfz7_2
    try clear hfz7_3
    try clear hfz7_4
    try clear hfz7_5
    try clear hfz7_6
    try clear hfz9_0
    try clear hfz9_1
    try clear hfz9_2
    try clear hfz9_3
    try clear hfz9_4
    try clear hfz9_5
    try clear hfz9_6
    obtain ⟨kq, x12_1, rfl, HA, HJ1, BK470, HB⟩ := hcut
    cases kq with
    | zero => exact absurd HA.out (by simp [impl_opOk.j0])
    | succ kj1 =>
      have H := HA.out
      clear HA
      simp only [impl_opOk.j0] at H
      by_cases c10 : x12_1 = true
      · subst c10
        have H1 : (some false) = some r := by rw [if_pos rfl] at H; exact H
        clear H
        have H := H1
        clear H1
        obtain rfl := Option.some.inj H
        go_wp2
        go_ret
        exact ⟨by first | rfl | (simp [errW_none, errW_some] <;> rfl) | (simp [*, errW_none, errW_some] <;> rfl), by repeat (first | (with_reducible first | exact HB.out | apply below_alloc | apply pw_below_drewN | apply below_drew1 | refine below_set ?_ GE470.out) | exact HB.out)⟩
      · replace c10 := Bool.eq_false_iff.mpr c10
        subst c10
        have H1 : (if a0_0 = 1 then (impl_opOk.j1 kj1 a0_0 (a0_0 == 1) a0_0 l0_1 a0_2 a0_3 a0_4 l0_5 l0_6) else (impl_opOk.j1 kj1 a0_0 (a0_0 == 3) a0_0 l0_1 a0_2 a0_3 a0_4 l0_5 l0_6)) = some r := by rw [if_neg (show ¬ (false = true) by decide)] at H; exact H
        clear H
        have H := H1
        clear H1
        have HC11 := Aside0.mk H
        clear H
        have hcz12_0 : wc.cell? ⟨gb470, 0, none⟩ = some (.int .i64 a0_0) := (blk_cell BK470.out 0).trans rfl
        have hcz12_1 : wc.cell? ⟨gb470, 1, none⟩ = some (.slice A0_1 l0_1.length c0_1) := (blk_cell BK470.out 1).trans rfl
        have hcz12_2 : wc.cell? ⟨gb470, 2, none⟩ = some (.int .i64 a0_2) := (blk_cell BK470.out 2).trans rfl
        have hcz12_3 : wc.cell? ⟨gb470, 3, none⟩ = some (.string a0_3) := (blk_cell BK470.out 3).trans rfl
        have hcz12_4 : wc.cell? ⟨gb470, 4, none⟩ = some (.int .i64 a0_4) := (blk_cell BK470.out 4).trans rfl
        have hcz12_5 : wc.cell? ⟨gb470, 5, none⟩ = some (.slice A0_5 l0_5.length c0_5) := (blk_cell BK470.out 5).trans rfl
        have hcz12_6 : wc.cell? ⟨gb470, 6, none⟩ = some (.slice A0_6 l0_6.length c0_6) := (blk_cell BK470.out 6).trans rfl
        have hfz12_0 := blk_frozen BK470.out 0
        have hfz12_1 := blk_frozen BK470.out 1
        have hfz12_2 := blk_frozen BK470.out 2
        have hfz12_3 := blk_frozen BK470.out 3
        have hfz12_4 := blk_frozen BK470.out 4
        have hfz12_5 := blk_frozen BK470.out 5
        have hfz12_6 := blk_frozen BK470.out 6
        go_upto_if 15 with (fail)
        go_cut [15] (fun v15 wc => ∃ (kq : Nat) (x15_10 : Bool), v15 = .bool x15_10 ∧ Aside0 (impl_opOk.j1 kq a0_0 x15_10 a0_0 l0_1 a0_2 a0_3 a0_4 l0_5 l0_6 = some r) ∧ Aside0 (kq ≤ kj1) ∧ Aside0 (wc.heap[gb470]? = some (.cells #[.int .i64 a0_0, (.slice A0_1 l0_1.length c0_1), .int .i64 a0_2, .string a0_3, .int .i64 a0_4, (.slice A0_5 l0_5.length c0_5), (.slice A0_6 l0_6.length c0_6)] 77 (0, 0))) ∧ Aside0 (Below w.heap.size w wc))
        case first =>
          have H := HC11.out
          clear HC11
          by_cases c13 : a0_0 = 1
          · rw [if_pos c13] at H
            have c13b0 : (a0_0 == 1) = true := beq_iff_eq.mpr c13
            have c13b1 : (a0_0 != 1) = false := bne_eq_false_iff_eq.mpr c13
            clear c13
            (first | rw [c13b0] | (simp only [i64_w, i32_w]; rw [c13b0]) | skip)
            have H' := Aside0.mk H
            clear H
            go_wp2
            go_meet
            case rel => exact ⟨_, ((a0_0 == 1)), (by first | rfl | (simp; done) | (simp [*]; done)), H', ⟨by have := HJ1.out; first | omega | exact Nat.le_refl _⟩, ⟨by (with_reducible repeat (first | refine blk_drewN ?_ _ | refine blk_drew ?_ | refine blk_alloc ?_ _)); exact BK470.out⟩, ⟨by repeat (first | (with_reducible first | exact HB.out | apply below_alloc | apply pw_below_drewN | apply below_drew1 | refine below_set ?_ GE470.out) | exact HB.out)⟩⟩
          · rw [if_neg c13] at H
            have c13b0 : (a0_0 == 1) = false := beq_eq_false_iff_ne.mpr c13
            have c13b1 : (a0_0 != 1) = true := bne_iff_ne.mpr c13
            (first | rw [c13b0] | (simp only [i64_w, i32_w]; rw [c13b0]) | skip)
            have H' := Aside0.mk H
            clear H
            go_wp2
            go_meet
            case rel => exact ⟨_, ((a0_0 == 3)), (by first | rfl | (simp; done) | (simp [*]; done)), H', ⟨by have := HJ1.out; first | omega | exact Nat.le_refl _⟩, ⟨by (with_reducible repeat (first | refine blk_drewN ?_ _ | refine blk_drew ?_ | refine blk_alloc ?_ _)); exact BK470.out⟩, ⟨by repeat (first | (with_reducible first | exact HB.out | apply below_alloc | apply pw_below_drewN | apply below_drew1 | refine below_set ?_ GE470.out) | exact HB.out)⟩⟩
        case rest =>
          clear HC11
          try clear c1
          try clear p2
          try clear c5
          try clear c6
          try clear c8
          try clear c10
          try clear c13
          try clear c13b0
          try clear c13b1
          try clear hcz12_0
          try clear hcz12_1
          try clear hcz12_2
          try clear hcz12_3
          try clear hcz12_4
          try clear hcz12_5
          try clear hcz12_6
          try clear hcz7_0
          try clear hcz7_1
          try clear hcz7_2
          try clear hcz7_3
          try clear hcz7_4
          try clear hcz7_5
          try clear hcz7_6
          try clear hcz9_0
          try clear hcz9_1
          try clear hcz9_2
          try clear hcz9_3
          try clear hcz9_4
          try clear hcz9_5
          try clear hcz9_6
          try clear hfz12_0
          try clear hfz12_1
          try clear hfz12_2
          try clear hfz12_3
          try clear hfz12_4
          try clear hfz12_5
          try clear hfz12_6
          try clear hfz7_0
          try clear hfz7_1
          try clear hfz7_2
          try clear hfz7_3
          try clear hfz7_4
          try clear hfz7_5
          try clear hfz7_6
          try clear hfz9_0
          try clear hfz9_1
          try clear hfz9_2
          try clear hfz9_3
          try clear hfz9_4
          try clear hfz9_5
          try clear hfz9_6
          try clear p2
          obtain ⟨kq, x15_10, rfl, HA, HJ10, BK470, HB⟩ := hcut
          cases kq with
          | zero => exact absurd HA.out (by simp [impl_opOk.j1])
          | succ kj10 =>
            have H := HA.out
            clear HA
            simp only [impl_opOk.j1] at H
            by_cases c14 : x15_10 = true
            · subst c14
              have H1 : ((impl_ValueOk.f kj10 a0_2 a0_3 a0_4 l0_5 l0_6).bind fun t473 => (some t473)) = some r := by rw [if_pos rfl] at H; exact H
              clear H
              have H := H1
              clear H1
              replace H := Option.bind_eq_some_iff.mp H
              obtain ⟨t473, A150, H⟩ := H
              replace H : (some t473) = some r := H
              have A15 := Aside0.mk A150
              clear A150
              obtain rfl := Option.some.inj H
              have hcz16_0 : wc.cell? ⟨gb470, 0, none⟩ = some (.int .i64 a0_0) := (blk_cell BK470.out 0).trans rfl
              have hcz16_1 : wc.cell? ⟨gb470, 1, none⟩ = some (.slice A0_1 l0_1.length c0_1) := (blk_cell BK470.out 1).trans rfl
              have hcz16_2 : wc.cell? ⟨gb470, 2, none⟩ = some (.int .i64 a0_2) := (blk_cell BK470.out 2).trans rfl
              have hcz16_3 : wc.cell? ⟨gb470, 3, none⟩ = some (.string a0_3) := (blk_cell BK470.out 3).trans rfl
              have hcz16_4 : wc.cell? ⟨gb470, 4, none⟩ = some (.int .i64 a0_4) := (blk_cell BK470.out 4).trans rfl
              have hcz16_5 : wc.cell? ⟨gb470, 5, none⟩ = some (.slice A0_5 l0_5.length c0_5) := (blk_cell BK470.out 5).trans rfl
              have hcz16_6 : wc.cell? ⟨gb470, 6, none⟩ = some (.slice A0_6 l0_6.length c0_6) := (blk_cell BK470.out 6).trans rfl
              have hfz16_0 := blk_frozen BK470.out 0
              have hfz16_1 := blk_frozen BK470.out 1
              have hfz16_2 := blk_frozen BK470.out 2
              have hfz16_3 := blk_frozen BK470.out 3
              have hfz16_4 := blk_frozen BK470.out 4
              have hfz16_5 := blk_frozen BK470.out 5
              have hfz16_6 := blk_frozen BK470.out 6
              go_wp2_with (first | ((with_reducible refine gate_callee (f := 18) rfl ?_); refine goesL_ (some 20) rfl rfl Try.func18 (by kernel_rfl) rfl #[.agg #[.int .i64 a0_2, .string a0_3, .int .i64 a0_4, .slice A0_5 l0_5.length c0_5, .slice A0_6 l0_6.length c0_6]] rfl (by (try simp only [List.map_toArray, List.map_cons, List.map_nil]); first | done | rfl | (simp only [List.length_drop, List.length_take]; rfl)) ?_; (with_reducible refine (impl_ValueOk.calls kj10 a0_2 a0_3 a0_4 _ _ l0_5 _ _ l0_6 t473 _ ?side1 ?side2 ?side3 ?side4 A15.out).mono ?_); (case side1 => repeat (first | exact (Kd.C_below HR0_5.out HB.out) | (with_reducible refine Kd.C_alloc ?_ _) | (with_reducible refine Kd.C_drewN ?_ _) | (with_reducible refine Kd.C_drew ?_))); (case side2 => exact HC0_5.out); (case side3 => repeat (first | exact (Kd.C_below HR0_6.out HB.out) | (with_reducible refine Kd.C_alloc ?_ _) | (with_reducible refine Kd.C_drewN ?_ _) | (with_reducible refine Kd.C_drew ?_))); (case side4 => exact HC0_6.out); rintro e w17 ⟨rfl, hb⟩; refine ⟨_, rfl, ?_⟩; have n0_ := Aside0.mk (blk_below (g := gb470) (o := .cells #[.int .i64 a0_0, .slice A0_1 l0_1.length c0_1, .int .i64 a0_2, .string a0_3, .int .i64 a0_4, .slice A0_5 l0_5.length c0_5, .slice A0_6 l0_6.length c0_6] 77 (0, 0)) (by (with_reducible repeat (first | refine blk_drewN ?_ _ | refine blk_drew ?_ | refine blk_alloc ?_ _)); exact BK470.out) hb); have n1_ := Aside0.mk (below_step (by repeat (first | (with_reducible first | exact HB.out | apply below_alloc | apply pw_below_drewN | apply below_drew1 | refine below_set ?_ GE470.out) | exact HB.out)) hb); clear BK470; clear HB; have BK470 := n0_; have HB := n1_; clear n0_ n1_; (try clear hb); (try clear hb2); (try clear hk); (try clear hi)))
              go_ret
              exact ⟨by first | rfl | (simp [errW_none, errW_some] <;> rfl) | (simp [*, errW_none, errW_some] <;> rfl), by repeat (first | (with_reducible first | exact HB.out | apply below_alloc | apply pw_below_drewN | apply below_drew1 | refine below_set ?_ GE470.out) | exact HB.out)⟩
            · replace c14 := Bool.eq_false_iff.mpr c14
              subst c14
              have H1 : (if a0_0 = 2 then ((impl_SameValue.f kj10 a0_2 a0_3 a0_4 l0_5 l0_6 0 (⟨#[]⟩ : ByteArray) 0 ([] : List ByteArray) ([] : List (S30))).bind fun t474 => (some t474)) else (some false)) = some r := by rw [if_neg (show ¬ (false = true) by decide)] at H; exact H
              clear H
              have H := H1
              clear H1
              by_cases c18 : a0_0 = 2
              · rw [if_pos c18] at H
                have c18b0 : (a0_0 == 2) = true := beq_iff_eq.mpr c18
                have c18b1 : (a0_0 != 2) = false := bne_eq_false_iff_eq.mpr c18
                clear c18
                replace H := Option.bind_eq_some_iff.mp H
                obtain ⟨t474, A190, H⟩ := H
                replace H : (some t474) = some r := H
                have A19 := Aside0.mk A190
                clear A190
                obtain rfl := Option.some.inj H
                have hcz20_0 : wc.cell? ⟨gb470, 0, none⟩ = some (.int .i64 a0_0) := (blk_cell BK470.out 0).trans rfl
                have hcz20_1 : wc.cell? ⟨gb470, 1, none⟩ = some (.slice A0_1 l0_1.length c0_1) := (blk_cell BK470.out 1).trans rfl
                have hcz20_2 : wc.cell? ⟨gb470, 2, none⟩ = some (.int .i64 a0_2) := (blk_cell BK470.out 2).trans rfl
                have hcz20_3 : wc.cell? ⟨gb470, 3, none⟩ = some (.string a0_3) := (blk_cell BK470.out 3).trans rfl
                have hcz20_4 : wc.cell? ⟨gb470, 4, none⟩ = some (.int .i64 a0_4) := (blk_cell BK470.out 4).trans rfl
                have hcz20_5 : wc.cell? ⟨gb470, 5, none⟩ = some (.slice A0_5 l0_5.length c0_5) := (blk_cell BK470.out 5).trans rfl
                have hcz20_6 : wc.cell? ⟨gb470, 6, none⟩ = some (.slice A0_6 l0_6.length c0_6) := (blk_cell BK470.out 6).trans rfl
                have hfz20_0 := blk_frozen BK470.out 0
                have hfz20_1 := blk_frozen BK470.out 1
                have hfz20_2 := blk_frozen BK470.out 2
                have hfz20_3 := blk_frozen BK470.out 3
                have hfz20_4 := blk_frozen BK470.out 4
                have hfz20_5 := blk_frozen BK470.out 5
                have hfz20_6 := blk_frozen BK470.out 6
                go_wp2_with (first | ((with_reducible refine gate_callee (f := 15) rfl ?_); refine goesL_ (some 26) rfl rfl Try.func15 (by kernel_rfl) rfl #[.agg #[.int .i64 a0_2, .string a0_3, .int .i64 a0_4, .slice A0_5 l0_5.length c0_5, .slice A0_6 l0_6.length c0_6], .agg #[.int .i64 0, .string (⟨#[]⟩ : ByteArray), .int .i64 0, .slice none 0 0, .slice none 0 0]] rfl (by (try simp only [List.map_toArray, List.map_cons, List.map_nil]); first | done | rfl | (simp only [List.length_drop, List.length_take]; rfl)) ?_; (refine (impl_SameValue.calls kj10 a0_2 a0_3 a0_4 _ _ l0_5 _ _ l0_6 0 (⟨#[]⟩ : ByteArray) 0 _ _ ([] : List ByteArray) _ _ ([] : List (S30)) t474 _ ?side1 ?side2 ?side3 ?side4 ?side5 ?side6 ?side7 ?side8 A19.out).mono ?_); (case side1 => repeat (first | exact (Kd.C_below HR0_5.out HB.out) | (with_reducible refine Kd.C_alloc ?_ _) | (with_reducible refine Kd.C_drewN ?_ _) | (with_reducible refine Kd.C_drew ?_))); (case side2 => exact HC0_5.out); (case side3 => repeat (first | exact (Kd.C_below HR0_6.out HB.out) | (with_reducible refine Kd.C_alloc ?_ _) | (with_reducible refine Kd.C_drewN ?_ _) | (with_reducible refine Kd.C_drew ?_))); (case side4 => exact HC0_6.out); (case side5 => exact Kd.C_nil _ _); (case side6 => exact Nat.le_refl _); (case side7 => exact Kd.C_nil _ _); (case side8 => exact Nat.le_refl _); rintro e w21 ⟨rfl, hb⟩; refine ⟨_, rfl, ?_⟩; have n0_ := Aside0.mk (blk_below (g := gb470) (o := .cells #[.int .i64 a0_0, .slice A0_1 l0_1.length c0_1, .int .i64 a0_2, .string a0_3, .int .i64 a0_4, .slice A0_5 l0_5.length c0_5, .slice A0_6 l0_6.length c0_6] 77 (0, 0)) (by (with_reducible repeat (first | refine blk_drewN ?_ _ | refine blk_drew ?_ | refine blk_alloc ?_ _)); exact BK470.out) hb); have n1_ := Aside0.mk (below_step (by repeat (first | (with_reducible first | exact HB.out | apply below_alloc | apply pw_below_drewN | apply below_drew1 | refine below_set ?_ GE470.out) | exact HB.out)) hb); clear BK470; clear HB; have BK470 := n0_; have HB := n1_; clear n0_ n1_; (try clear hb); (try clear hb2); (try clear hk); (try clear hi)))
                go_ret
                exact ⟨by first | rfl | (simp [errW_none, errW_some] <;> rfl) | (simp [*, errW_none, errW_some] <;> rfl), by repeat (first | (with_reducible first | exact HB.out | apply below_alloc | apply pw_below_drewN | apply below_drew1 | refine below_set ?_ GE470.out) | exact HB.out)⟩
              · rw [if_neg c18] at H
                have c18b0 : (a0_0 == 2) = false := beq_eq_false_iff_ne.mpr c18
                have c18b1 : (a0_0 != 2) = true := bne_iff_ne.mpr c18
                obtain rfl := Option.some.inj H
                go_wp2
                go_ret
                exact ⟨by first | rfl | (simp [errW_none, errW_some] <;> rfl) | (simp [*, errW_none, errW_some] <;> rfl), by repeat (first | (with_reducible first | exact HB.out | apply below_alloc | apply pw_below_drewN | apply below_drew1 | refine below_set ?_ GE470.out) | exact HB.out)⟩

end Go.Proofs.Ytchhognpijobcaa.G

/- G66 -/
-- Laid by wip/g/gprint.py out of the translation, by the kit's print program. Lean checks it.
namespace Go.Proofs.Ytchhognpijobcaa.G
open Go.RowKit Go.Proofs.YtchhognpijobcaaW.PrintWords Go.Proofs.YtchhognpijobcaaW.PrintLast Go.Proofs.YtchhognpijobcaaW.PrintMore
attribute [local go_sem] max2_int min2_int max_two min_two max_three min_three max_four min_four   -- for this text's walks alone
set_option linter.unusedVariables false
set_option linter.unusedSimpArgs false

/-! ### impl_PatchOk_1: function 66 -/
def impl_PatchOk_1.f (k : Nat) (a0_0 : Int) (l0_1 : List ByteArray) (a0_2 : Int) (a0_3 : ByteArray) (a0_4 : Int) (l0_5 : List ByteArray) (l0_6 : List (S30)) : Option (Bool) := (impl_opOk.f k a0_0 l0_1 a0_2 a0_3 a0_4 l0_5 l0_6).bind fun t476 => (some (!t476))
theorem impl_PatchOk_1.mono : ∀ a0 a1 a2 a3 a4 a5 a6 k, LeO (impl_PatchOk_1.f k a0 a1 a2 a3 a4 a5 a6) (impl_PatchOk_1.f (k + 1) a0 a1 a2 a3 a4 a5 a6) := by
  intro a0 a1 a2 a3 a4 a5 a6 k
  unfold impl_PatchOk_1.f
  repeat' first
      | (with_reducible exact impl_opOk.mono _ _ _ _ _ _ _ _)
      | (with_reducible exact LeO.refl _)
      | (with_reducible exact LeO.none _)
      | (with_reducible refine LeO.ite ?_ ?_)
      | (with_reducible refine LeO.bind ?_ (fun _ => ?_))
      | exact impl_opOk.mono _ _ _ _ _ _ _ _
      | exact LeO.none _
      | refine LeO.ite ?_ ?_
      | refine LeO.bind ?_ (fun _ => ?_)
set_option maxHeartbeats 8000000 in
set_option maxRecDepth 100000 in
theorem impl_PatchOk_1.calls (k : Nat) (a0_0 : Int) (A0_1 : Option Addr) (c0_1 : Nat) (l0_1 : List ByteArray) (a0_2 : Int) (a0_3 : ByteArray) (a0_4 : Int) (A0_5 : Option Addr) (c0_5 : Nat) (l0_5 : List ByteArray) (A0_6 : Option Addr) (c0_6 : Nat) (l0_6 : List (S30)) (r : Bool) (w : World) (hr0_1 : Kd.C Kd.string w A0_1 l0_1.length l0_1) (hc0_1 : l0_1.length ≤ c0_1) (hr0_5 : Kd.C Kd.string w A0_5 l0_5.length l0_5) (hc0_5 : l0_5.length ≤ c0_5) (hr0_6 : Kd.C k30 w A0_6 l0_6.length l0_6) (hc0_6 : l0_6.length ≤ c0_6) (h : impl_PatchOk_1.f k a0_0 l0_1 a0_2 a0_3 a0_4 l0_5 l0_6 = some r) :
    Calls Try.prog 66 #[.agg #[.int .i64 a0_0, .slice A0_1 l0_1.length c0_1, .int .i64 a0_2, .string a0_3, .int .i64 a0_4, .slice A0_5 l0_5.length c0_5, .slice A0_6 l0_6.length c0_6]] w fun e w' => e = .returned (.bool r) ∧ Below w.heap.size w w' := by
  have hu77 := Try.underlying77
  have HR0_1 := Aside0.mk hr0_1
  have HC0_1 := Aside0.mk hc0_1
  clear hr0_1 hc0_1
  have HR0_5 := Aside0.mk hr0_5
  have HC0_5 := Aside0.mk hc0_5
  clear hr0_5 hc0_5
  have HR0_6 := Aside0.mk hr0_6
  have HC0_6 := Aside0.mk hc0_6
  clear hr0_6 hc0_6
  have HB := Aside0.mk (Below.refl w.heap.size w)
  have H : ((impl_opOk.f k a0_0 l0_1 a0_2 a0_3 a0_4 l0_5 l0_6).bind fun t476 => (some (!t476))) = some r := h
  clear h
  replace H := Option.bind_eq_some_iff.mp H
  obtain ⟨t476, A20, H⟩ := H
  replace H : (some (!t476)) = some r := H
  have A2 := Aside0.mk A20
  clear A20
  obtain rfl := Option.some.inj H
  go_enter Try.func66, Try.ntmps66
  go_wp2_with (first | ((with_reducible refine gate_dst (N := 1) rfl ?_); refine box_event ?hg (N := 1) ?hd (cs := #[.int .i64 a0_0, .slice A0_1 l0_1.length c0_1, .int .i64 a0_2, .string a0_3, .int .i64 a0_4, .slice A0_5 l0_5.length c0_5, .slice A0_6 l0_6.length c0_6]) (t := 77) ?hr ?_; (case hd => rfl); (case hg => rfl); (case hr => first | (go_simp; done) | (go_simp; rfl)); intro gb475 hg w3 hbox hb; have n0_ := Aside0.mk (below_step (by repeat (first | (with_reducible first | exact HB.out | apply below_alloc | apply pw_below_drewN | apply below_drew1) | exact HB.out)) hb); have n1_ := Aside0.mk (hbox); have n2_ := Aside0.mk ((by rw [hg]; exact (below_size (by repeat (first | (with_reducible first | exact HB.out | apply below_alloc | apply pw_below_drewN | apply below_drew1) | exact HB.out))) : w.heap.size ≤ gb475)); have n3_ := Aside0.mk ((by rw [hg]; exact (below_size (by repeat (first | (with_reducible first | exact HB.out | apply below_alloc | apply pw_below_drewN | apply below_drew1) | exact HB.out))) : w.heap.size ≤ gb475)); clear HB; have HB := n0_; have BK475 := n1_; have GW475 := n2_; have GE475 := n3_; clear n0_ n1_ n2_ n3_; clear hb hbox hg; have hcz4_0 : w3.cell? ⟨gb475, 0, none⟩ = some (.int .i64 a0_0) := (blk_cell BK475.out 0).trans rfl; have hcz4_1 : w3.cell? ⟨gb475, 1, none⟩ = some (.slice A0_1 l0_1.length c0_1) := (blk_cell BK475.out 1).trans rfl; have hcz4_2 : w3.cell? ⟨gb475, 2, none⟩ = some (.int .i64 a0_2) := (blk_cell BK475.out 2).trans rfl; have hcz4_3 : w3.cell? ⟨gb475, 3, none⟩ = some (.string a0_3) := (blk_cell BK475.out 3).trans rfl; have hcz4_4 : w3.cell? ⟨gb475, 4, none⟩ = some (.int .i64 a0_4) := (blk_cell BK475.out 4).trans rfl; have hcz4_5 : w3.cell? ⟨gb475, 5, none⟩ = some (.slice A0_5 l0_5.length c0_5) := (blk_cell BK475.out 5).trans rfl; have hcz4_6 : w3.cell? ⟨gb475, 6, none⟩ = some (.slice A0_6 l0_6.length c0_6) := (blk_cell BK475.out 6).trans rfl; have hfz4_0 := blk_frozen BK475.out 0; have hfz4_1 := blk_frozen BK475.out 1; have hfz4_2 := blk_frozen BK475.out 2; have hfz4_3 := blk_frozen BK475.out 3; have hfz4_4 := blk_frozen BK475.out 4; have hfz4_5 := blk_frozen BK475.out 5; have hfz4_6 := blk_frozen BK475.out 6) | ((with_reducible refine gate_callee (f := 67) rfl ?_); refine goesL_ (some 4) rfl rfl Try.func67 (by kernel_rfl) rfl #[.agg #[.int .i64 a0_0, .slice A0_1 l0_1.length c0_1, .int .i64 a0_2, .string a0_3, .int .i64 a0_4, .slice A0_5 l0_5.length c0_5, .slice A0_6 l0_6.length c0_6]] rfl (by (try simp only [List.map_toArray, List.map_cons, List.map_nil]); first | done | rfl | (simp only [List.length_drop, List.length_take]; rfl)) ?_; (with_reducible refine (impl_opOk.calls k a0_0 _ _ l0_1 a0_2 a0_3 a0_4 _ _ l0_5 _ _ l0_6 t476 _ ?side1 ?side2 ?side3 ?side4 ?side5 ?side6 A2.out).mono ?_); (case side1 => repeat (first | exact (Kd.C_below HR0_1.out HB.out) | (with_reducible refine Kd.C_alloc ?_ _) | (with_reducible refine Kd.C_drewN ?_ _) | (with_reducible refine Kd.C_drew ?_))); (case side2 => exact HC0_1.out); (case side3 => repeat (first | exact (Kd.C_below HR0_5.out HB.out) | (with_reducible refine Kd.C_alloc ?_ _) | (with_reducible refine Kd.C_drewN ?_ _) | (with_reducible refine Kd.C_drew ?_))); (case side4 => exact HC0_5.out); (case side5 => repeat (first | exact (Kd.C_below HR0_6.out HB.out) | (with_reducible refine Kd.C_alloc ?_ _) | (with_reducible refine Kd.C_drewN ?_ _) | (with_reducible refine Kd.C_drew ?_))); (case side6 => exact HC0_6.out); rintro e w5 ⟨rfl, hb⟩; refine ⟨_, rfl, ?_⟩; have n0_ := Aside0.mk (blk_below (g := gb475) (o := .cells #[.int .i64 a0_0, .slice A0_1 l0_1.length c0_1, .int .i64 a0_2, .string a0_3, .int .i64 a0_4, .slice A0_5 l0_5.length c0_5, .slice A0_6 l0_6.length c0_6] 77 (0, 0)) (by (with_reducible repeat (first | refine blk_drewN ?_ _ | refine blk_drew ?_ | refine blk_alloc ?_ _)); exact BK475.out) hb); have n1_ := Aside0.mk (below_step (by repeat (first | (with_reducible first | exact HB.out | apply below_alloc | apply pw_below_drewN | apply below_drew1 | refine below_set ?_ GE475.out) | exact HB.out)) hb); clear BK475; clear HB; have BK475 := n0_; have HB := n1_; clear n0_ n1_; (try clear hb); (try clear hb2); (try clear hk); (try clear hi)))
  go_ret
  exact ⟨by first | rfl | (simp [errW_none, errW_some] <;> rfl) | (simp [*, errW_none, errW_some] <;> rfl), by repeat (first | (with_reducible first | exact HB.out | apply below_alloc | apply pw_below_drewN | apply below_drew1 | refine below_set ?_ GE475.out) | exact HB.out)⟩

end Go.Proofs.Ytchhognpijobcaa.G

/- G30 -/
-- Laid by wip/g/gprint.py out of the translation, by the kit's print program. Lean checks it.
namespace Go.Proofs.Ytchhognpijobcaa.G
open Go.RowKit Go.Proofs.YtchhognpijobcaaW.PrintWords Go.Proofs.YtchhognpijobcaaW.PrintLast Go.Proofs.YtchhognpijobcaaW.PrintMore
attribute [local go_sem] max2_int min2_int max_two min_two max_three min_three max_four min_four   -- for this text's walks alone
set_option linter.unusedVariables false
set_option linter.unusedSimpArgs false

/-! ### slices.ContainsFunc[[]loop.example/g00119/impl.Op,loop.example/g00119/impl.Op] at loop.example/g00119/impl.PatchOk$1 -/
def impl_PatchOk_h66.f (k : Nat) (l0 : List (S77)) : Option Bool := (idxO (fun x => impl_PatchOk_1.f k x.f0 x.f1 x.f2.f0 x.f2.f1 x.f2.f2 x.f2.f3 x.f2.f4) l0 0).bind fun i => some (decide (0 ≤ i))
theorem impl_PatchOk_h66.mono (l0 : List (S77)) (k : Nat) : LeO (impl_PatchOk_h66.f k l0) (impl_PatchOk_h66.f (k + 1) l0) := LeO.bind (idxO_mono (fun x => impl_PatchOk_1.mono _ _ _ _ _ _ _ _) _ _) (fun _ => LeO.refl _)
theorem impl_PatchOk_h66.calls (k : Nat) (A0 : Option Addr) (c0 : Nat) (l0 : List (S77)) (r : Bool) (w : World) (hr0 : Kd.C k77 w A0 l0.length l0) (hc0 : l0.length ≤ c0) (h : impl_PatchOk_h66.f k l0 = some r) :
    Calls Try.prog 65 #[.slice A0 l0.length c0, .func (.func 66) #[] #[]] w fun e w' => e = .returned (.bool r) ∧ Below w.heap.size w w' := by
  unfold impl_PatchOk_h66.f at h
  obtain ⟨i, hi, hr⟩ := bind_some' h
  cases hr
  refine (slices_ContainsFunc_simpl_Op_impl_Op.calls k77 rfl 66 (fun _ _ => by kernel_rfl) #[] _ A0 c0 l0 i w hr0 hc0 ?_ hi).mono ?_
  · intro x cs b W hx hp hk hb
    obtain ⟨A1, c1, A5, c5, A6, c6, rfl, l1, q1, l5, q5, l6, q6⟩ := k77_open hk
    exact (impl_PatchOk_1.calls k x.f0 A1 c1 x.f1 x.f2.f0 x.f2.f1 x.f2.f2 A5 c5 x.f2.f3 A6 c6 x.f2.f4 b W q1 l1 q5 l5 q6 l6 hp).mono fun e w' h_ => ⟨h_.1, by first | exact h_.2 | exact h_.2.below⟩
  · rintro e w2 ⟨rfl, hb2⟩
    exact ⟨rfl, hb2⟩
/-! ### impl_PatchOk: function 30 -/
def impl_PatchOk.f (k : Nat) (l0 : List (S77)) : Option (Bool) := if (l0.length : Int) ≤ 20 then ((impl_PatchOk_h66.f k l0).bind fun t477 => (some (!t477))) else (some false)
theorem impl_PatchOk.mono : ∀ a0 k, LeO (impl_PatchOk.f k a0) (impl_PatchOk.f (k + 1) a0) := by
  intro a0 k
  unfold impl_PatchOk.f
  repeat' first
      | (with_reducible exact impl_PatchOk_h66.mono _ _)
      | (with_reducible exact LeO.refl _)
      | (with_reducible exact LeO.none _)
      | (with_reducible refine LeO.ite ?_ ?_)
      | (with_reducible refine LeO.bind ?_ (fun _ => ?_))
      | exact impl_PatchOk_h66.mono _ _
      | exact LeO.none _
      | refine LeO.ite ?_ ?_
      | refine LeO.bind ?_ (fun _ => ?_)
set_option maxHeartbeats 8000000 in
set_option maxRecDepth 100000 in
theorem impl_PatchOk.calls (k : Nat) (A0 : Option Addr) (c0 : Nat) (l0 : List (S77)) (r : Bool) (w : World) (hr0 : Kd.C k77 w A0 l0.length l0) (hc0 : l0.length ≤ c0) (h : impl_PatchOk.f k l0 = some r) :
    Calls Try.prog 30 #[.slice A0 l0.length c0] w fun e w' => e = .returned (.bool r) ∧ Below w.heap.size w w' := by
  have HR0 := Aside0.mk hr0
  have HC0 := Aside0.mk hc0
  clear hr0 hc0
  have HB := Aside0.mk (Below.refl w.heap.size w)
  have H : (if (l0.length : Int) ≤ 20 then ((impl_PatchOk_h66.f k l0).bind fun t477 => (some (!t477))) else (some false)) = some r := h
  clear h
  by_cases c2 : (l0.length : Int) ≤ 20
  · rw [if_pos c2] at H
    have c2b0 : decide ((l0.length : Int) ≤ 20) = true := decide_eq_true c2
    have c2b1 : decide (l0.length ≤ 20) = true := decide_eq_true (by omega)
    clear c2
    replace H := Option.bind_eq_some_iff.mp H
    obtain ⟨t477, A30, H⟩ := H
    replace H : (some (!t477)) = some r := H
    have A3 := Aside0.mk A30
    clear A30
    obtain rfl := Option.some.inj H
    go_enter Try.func30, Try.ntmps30
    go_wp2_with (first | (go_at_call 65; (with_reducible refine (impl_PatchOk_h66.calls k _ _ l0 t477 _ ?side1 ?side2 A3.out).mono ?_); (case side1 => repeat (first | exact HR0.out | (with_reducible refine Kd.C_alloc ?_ _) | (with_reducible refine Kd.C_drewN ?_ _) | (with_reducible refine Kd.C_drew ?_))); (case side2 => exact HC0.out); rintro e w4 ⟨rfl, hb⟩; have n0_ := Aside0.mk (below_step (by repeat (first | (with_reducible first | exact HB.out | apply below_alloc | apply pw_below_drewN | apply below_drew1) | exact HB.out)) hb); clear HB; have HB := n0_; clear n0_; (try clear hb); (try clear hb2); (try clear hk); (try clear hi)))
    go_ret
    exact ⟨by first | rfl | (simp [errW_none, errW_some] <;> rfl) | (simp [*, errW_none, errW_some] <;> rfl), by repeat (first | (with_reducible first | exact HB.out | apply below_alloc | apply pw_below_drewN | apply below_drew1) | exact HB.out)⟩
  · rw [if_neg c2] at H
    have c2b0 : decide ((l0.length : Int) ≤ 20) = false := decide_eq_false c2
    have c2b1 : decide (l0.length ≤ 20) = false := decide_eq_false (by omega)
    clear c2
    obtain rfl := Option.some.inj H
    go_enter Try.func30, Try.ntmps30
    go_wp2
    go_ret
    exact ⟨by first | rfl | (simp [errW_none, errW_some] <;> rfl) | (simp [*, errW_none, errW_some] <;> rfl), by repeat (first | (with_reducible first | exact HB.out | apply below_alloc | apply pw_below_drewN | apply below_drew1) | exact HB.out)⟩

end Go.Proofs.Ytchhognpijobcaa.G

/- POps -/
/-
  Operations: sizes, copies, equality; lists of operations that are right; the law of PatchOk.
-/
namespace Go.Proofs.Ytchhognpijobcaa.G
open Go.RowKit Go.Proofs.YtchhognpijobcaaW.PrintWords Go.Proofs.YtchhognpijobcaaW.PrintLast Go.Proofs.YtchhognpijobcaaW.PrintMore
set_option linter.unusedVariables false
abbrev LOp := S75
abbrev IOp := S77
theorem rdLO {xs : List LOp} {i : Nat} (h : i < xs.length) : rd_T75 xs (i : Int) = xs[i] := by unfold rd_T75; rw [Int.toNat_natCast]; exact getD_at h _
theorem rdIO {xs : List IOp} {i : Nat} (h : i < xs.length) : rd_T77 xs (i : Int) = xs[i] := by unfold rd_T77; rw [Int.toNat_natCast]; exact getD_at h _
def valB (x : IVal) : Bool := decide (0 < lookN 6 x)
theorem specValueOk_ev {n : Nat} (x : IVal) (h : SmI n x) : Ev (fun k => spec_ValueOk.f k x.f0 x.f1 x.f2 x.f3 x.f4) (valB x) := by
  unfold spec_ValueOk.f valB
  exact Ev.bind (l4Look_ev 6 n x (by omega) h) (ev_some (by rw [decide_eq_decide]; omega))
theorem implValueOk_ev {n : Nat} (x : IVal) (h : SmI n x) : Ev (fun k => impl_ValueOk.f k x.f0 x.f1 x.f2 x.f3 x.f4) (valB x) := by
  unfold impl_ValueOk.f valB
  refine Ev.bind (measured_ev 6 n x (by omega) h) (ev_some ?_)
  have := lookN_le 6 x
  unfold bigN
  rw [decide_eq_decide]
  split <;> omega
def smStrs (x : List ByteArray) : Prop := x.length ≤ 1048576 ∧ ∀ y ∈ x, y.size ≤ 1048576
def smOpL (x : LOp) : Prop := smStrs x.f1 ∧ ∃ n, wfValN n x.f2 ∧ SmL n x.f2
def smOpI (x : IOp) : Prop := smStrs x.f1 ∧ ∃ n, SmI n x.f2
theorem szOp_tot (x : LOp) (left : Int) (hw : wfOp x) (h0 : 0 ≤ left) (h1 : left ≤ 1048576) : ∃ r, Ev (fun k => laws_szOp.f k x.f0 x.f1 x.f2.f0 x.f2.f1 x.f2.f2 x.f2.f3 x.f2.f4 left) r ∧ Left left (smOpL x) r := by
  obtain ⟨_, hk, n, hn⟩ := hw
  have hz := szStringS_ev x.f1 left ⟨hk.1, hk.2⟩ h0 h1
  have hle := szR_le h0 (totStrs x.f1)
  by_cases c : szR left (totStrs x.f1) < 0
  · exact ⟨-1, by unfold laws_szOp.f; exact Ev.bind hz (ev_if_pos c (Ev.now _)), .inl (by omega)⟩
  · have hsm := strs_small h1 (by omega : 0 ≤ szR left (totStrs x.f1))
    obtain ⟨r, hr, hL⟩ := szValue_tot n x.f2 (szR left (totStrs x.f1)) hn (by omega) (by omega)
    rcases hL with hneg | ⟨hp, hle2, hs⟩
    · exact ⟨-1, by unfold laws_szOp.f; exact Ev.bind hz (ev_if_neg c (Ev.bind hr (ev_if_pos hneg (Ev.now _)))), .inl (by omega)⟩
    · exact ⟨r, by unfold laws_szOp.f; exact Ev.bind hz (ev_if_neg c (Ev.bind hr (ev_if_neg (by omega) (Ev.now _)))), .inr ⟨hp, by omega, hsm, n, hn, hs⟩⟩
theorem szOpS_tot (xs : List LOp) (left : Int) (hl : xs.length ≤ 9223372036854775807) (hw : ∀ x ∈ xs, wfOp x) (h0 : 0 ≤ left) (h1 : left ≤ 1048576) : ∃ r, Ev (fun k => laws_szOpS.f k xs left) r ∧ Left left (xs.length ≤ 1048576 ∧ ∀ x ∈ xs, smOpL x) r := by
  have loop : ∀ (d i : Nat) (left : Int), i + d = xs.length → 0 ≤ left → left ≤ 1048576 → ∃ r, Ev (fun k => laws_szOpS.l0 k xs left i) r ∧ Left left (∀ y ∈ xs.drop i, smOpL y) r := by
    intro d
    induction d with
    | zero =>
      intro i left hi h0 h1
      refine ⟨left, Ev.step (fun k => by rw [laws_szOpS.l0]) (ev_if_neg (by omega) (Ev.now _)), .inr ⟨h0, Int.le_refl _, ?_⟩⟩
      rw [List.drop_of_length_le (by omega)]; intro y hy; cases hy
    | succ d ih =>
      intro i left hid h0 h1
      have hi : i < xs.length := by omega
      obtain ⟨r, hr, hL⟩ := szOp_tot xs[i] left (hw _ (List.getElem_mem hi)) h0 h1
      rcases hL with hneg | ⟨hp, hle, hs⟩
      · refine ⟨-1, Ev.step (fun k => by rw [laws_szOpS.l0]) (ev_if_pos (by omega) (ev_if_pos (by omega) ?_)), .inl (by omega)⟩
        simp only [rdLO hi]
        exact Ev.bind hr (ev_if_pos hneg (Ev.now _))
      · obtain ⟨r2, hr2, hL2⟩ := ih (i + 1) r (by omega) hp (by omega)
        refine ⟨r2, Ev.step (fun k => by rw [laws_szOpS.l0]) (ev_if_pos (by omega) (ev_if_pos (by omega) ?_)), ?_⟩
        · simp only [rdLO hi, wsucc hi hl]
          exact Ev.bind hr (ev_if_neg (by omega) hr2)
        · rcases hL2 with h | ⟨a, b, c⟩
          · exact .inl h
          · refine .inr ⟨a, by omega, ?_⟩
            rw [List.drop_eq_getElem_cons hi]
            intro y hy
            rcases List.mem_cons.1 hy with rfl | hy
            · exact hs
            · exact c y hy
  unfold laws_szOpS.f
  rw [w64 (by omega) (by omega)]
  by_cases c : left - (xs.length : Int) < 0
  · exact ⟨-1, ev_if_pos c (Ev.now _), .inl (by omega)⟩
  · obtain ⟨r, hr, hL⟩ := loop xs.length 0 (left - (xs.length : Int)) (by omega) (by omega) (by omega)
    refine ⟨r, ev_if_neg c hr, ?_⟩
    rcases hL with h | ⟨a, b, hs⟩
    · exact .inl h
    · exact .inr ⟨a, by omega, by omega, fun x hx => hs x (by rw [List.drop_zero]; exact hx)⟩
theorem toOp_tot (x : LOp) (h : smOpL x) : ∃ y : IOp, Ev (fun k => laws_toOp.f k x.f0 x.f1 x.f2.f0 x.f2.f1 x.f2.f2 x.f2.f3 x.f2.f4) (y.f0, y.f1, y.f2.f0, y.f2.f1, y.f2.f2, y.f2.f3, y.f2.f4) ∧ smOpI y := by
  obtain ⟨hs, n, hn, hsm⟩ := h
  obtain ⟨v, hv, hv2⟩ := toValue_tot n x.f2 hn hsm
  refine ⟨⟨x.f0, x.f1, v⟩, ?_, hs, n, hv2⟩
  unfold laws_toOp.f
  exact Ev.bind (toStringS_ev x.f1 hs.1) (Ev.bind hv (Ev.now _))
theorem toOpS_tot (xs : List LOp) (hl : xs.length ≤ 1048576) (hs : ∀ x ∈ xs, smOpL x) : ∃ ys : List IOp, Ev (fun k => laws_toOpS.f k xs) ys ∧ ys.length = xs.length ∧ ∀ y ∈ ys, smOpI y := by
  have loop : ∀ (d i : Nat) (ys : List IOp), i + d = xs.length → ys.length = xs.length → (∀ y ∈ ys.take i, smOpI y) → ∃ zs, Ev (fun k => laws_toOpS.l0 k xs ys i) zs ∧ zs.length = xs.length ∧ ∀ y ∈ zs, smOpI y := by
    intro d
    induction d with
    | zero =>
      intro i ys hi hy hall
      refine ⟨ys, Ev.step (fun k => by rw [laws_toOpS.l0]) (ev_if_neg (by omega) (Ev.now _)), hy, fun y hm => hall y ?_⟩
      rw [List.take_of_length_le (by omega)]; exact hm
    | succ d ih =>
      intro i ys hid hy hall
      have hi : i < xs.length := by omega
      obtain ⟨y, hy1, hy2⟩ := toOp_tot xs[i] (hs _ (List.getElem_mem hi))
      obtain ⟨y0, y1, y2, y3, y4, y5, y6⟩ := y
      obtain ⟨zs, hz, hz1, hz2⟩ := ih (i + 1) (ys.set i ⟨y0, y1, ⟨y2, y3, y4, y5, y6⟩⟩) (by omega) (by simpa using hy) (by
        intro z hz
        rw [take_set_succ _ _ (by omega)] at hz
        rcases List.mem_append.1 hz with h | h
        · exact hall z h
        · rw [List.mem_singleton.1 h]; exact hy2)
      refine ⟨zs, Ev.step (fun k => by rw [laws_toOpS.l0]) (ev_if_pos (by omega) (ev_if_pos (by omega) ?_)), hz1, hz2⟩
      simp only [rdLO hi, wsucc hi (by omega : xs.length ≤ 9223372036854775807)]
      refine Ev.bind hy1 (ev_if_pos (by omega) ?_)
      simp only [Int.toNat_natCast]
      exact hz
  obtain ⟨zs, hz, hz1, hz2⟩ := loop xs.length 0 (List.replicate xs.length z77) (by omega) (by simp) (by intro y hy; simp at hy)
  refine ⟨zs, ?_, hz1, hz2⟩
  unfold laws_toOpS.f
  refine ev_if_pos (by omega) (ev_if_pos (by simp; omega) ?_)
  simp only [Int.toNat_natCast]
  exact hz
theorem eqOp_ev (x : IOp) (h : smOpI x) : Ev (fun k => laws_eqOp.f k x.f0 x.f1 x.f2.f0 x.f2.f1 x.f2.f2 x.f2.f3 x.f2.f4 x.f0 x.f1 x.f2.f0 x.f2.f1 x.f2.f2 x.f2.f3 x.f2.f4) true := by
  obtain ⟨hs, n, hn⟩ := h
  unfold laws_eqOp.f
  exact ev_if_pos rfl (Ev.bind (eqStringS_ev _ (by have := hs.1; omega)) (ev_if_pos rfl (Ev.bind (eqValue_ev n x.f2 hn) (ev_if_pos rfl (Ev.now _)))))
theorem eqOpS_ev (xs : List IOp) (hl : xs.length ≤ 1048576) (hs : ∀ x ∈ xs, smOpI x) : Ev (fun k => laws_eqOpS.f k xs xs) true := by
  unfold laws_eqOpS.f
  refine ev_if_pos rfl ?_
  have := loop_all (g := fun k i => laws_eqOpS.l0 k xs xs i) xs.length (fun _ => true) true (fun i hi _ r hr => ?_) (fun i hi h => by cases h) (Ev.step (fun k => by rw [laws_eqOpS.l0]) (ev_if_neg (by omega) (Ev.now _)))
  · rw [allN_true.2 (fun _ _ => rfl)] at this; exact this
  · refine Ev.step (fun k => by rw [laws_eqOpS.l0]) ?_
    simp only [wsucc hi (by omega : xs.length ≤ 9223372036854775807), rdIO hi]
    exact ev_if_pos (by omega) (ev_if_pos (by omega) (ev_if_pos (by omega) (Ev.bind (eqOp_ev _ (hs _ (List.getElem_mem hi))) (ev_if_pos rfl hr))))
/-! ### operations that are right -/
def wordB (s : ByteArray) : Bool := nameB s || numB s
def pathB (p : List ByteArray) : Bool := inB p.length 1 5 && allN p.length (fun i => wordB (rdOf ByteArray.empty p (i : Nat)))
def zeroV : IVal := ⟨0, ⟨#[]⟩, 0, [], []⟩
noncomputable def opB (x : IOp) : Bool := inB x.f0 1 3 && (pathB x.f1 && (if x.f0 = 2 then same x.f2 zeroV else valB x.f2))
noncomputable def patB (xs : List IOp) : Bool := allN xs.length (fun i => opB (rd_T77 xs (i : Nat))) && decide ((xs.length : Int) ≤ 20)
theorem l5Path_ev (p : List ByteArray) (h : smStrs p) : Ev (fun k => spec_l5Path.f k p) (pathB p) := by
  have hw : wfStrs p := wfStrs_of h
  unfold spec_l5Path.f pathB
  rw [Bool.and_comm]
  refine loop_all (g := fun k i => spec_l5Path.l0 k p i) p.length _ _ ?_ ?_ ?_
  · intro i hi hok r hr
    refine Ev.step (fun k => by rw [spec_l5Path.l0]) ?_
    simp only [wsucc hi hw.1]
    refine ev_if_pos (by omega) (ev_if_pos (by omega) (Ev.bind (specNameOk_ev _ (wfStrs_at hw hi)) (ev_if (fun _ => hr) (fun c => Ev.bind (l4Number_ev _ (wfStrs_at hw hi)) (ev_if_neg ?_ hr)))))
    have : numB (rdOf ByteArray.empty p (i : Nat)) = true := by
      unfold wordB at hok
      rw [Bool.or_eq_true] at hok
      exact hok.resolve_left c
    have := numR_nonneg.2 this
    omega
  · intro i hi hok
    refine Ev.step (fun k => by rw [spec_l5Path.l0]) ?_
    simp only [wordB, Bool.or_eq_false_iff] at hok
    refine ev_if_pos (by omega) (ev_if_pos (by omega) (Ev.bind (specNameOk_ev _ (wfStrs_at hw hi)) (ev_if_neg (by rw [hok.1]; simp) (Ev.bind (l4Number_ev _ (wfStrs_at hw hi)) (ev_if_pos ?_ (Ev.now _))))))
    have : ¬ 0 ≤ numR (rdOf ByteArray.empty p (i : Nat)) := by rw [numR_nonneg, hok.2]; simp
    omega
  · refine Ev.step (fun k => by rw [spec_l5Path.l0]) (ev_if_neg (by omega) ?_)
    simp only [l1In_f, Option.bind_some]
    exact Ev.now _
theorem l5Zero_ev (v : IVal) : Ev (fun _ => spec_l5Zero.f v.f0 v.f1 v.f2 v.f3 v.f4) (same v zeroV) := by
  unfold spec_l5Zero.f
  have no : v ≠ zeroV → Ev (fun _ : Nat => some false) (same v zeroV) := fun h => by rw [same_false.2 h]; exact Ev.now _
  by_cases c0 : v.f0 = 0
  · refine ev_if_pos c0 ?_
    by_cases c1 : v.f1.toList = ([] : List UInt8)
    · refine ev_if_pos c1 ?_
      by_cases c2 : v.f2 = 0
      · refine ev_if_pos c2 ?_
        by_cases c3 : (v.f3.length : Int) = 0
        · refine ev_if_pos c3 (ev_some ?_)
          have h1 : v.f1 = ⟨#[]⟩ := bytes_eq.1 (c1.trans (toList_nil.2 rfl).symm)
          have h3 : v.f3 = [] := List.length_eq_zero_iff.1 (by omega)
          rw [Bool.eq_iff_iff, same_true, val_eq, beq_iff_eq]
          exact ⟨fun h => ⟨c0, h1, c2, h3, List.length_eq_zero_iff.1 (by omega)⟩, fun h => by rw [h.2.2.2.2]; rfl⟩
        · exact ev_if_neg c3 (no (fun e => c3 (by rw [e]; rfl)))
      · exact ev_if_neg c2 (no (fun e => c2 (by rw [e]; rfl)))
    · exact ev_if_neg c1 (no (fun e => c1 (by rw [e]; exact toList_nil.2 rfl)))
  · exact ev_if_neg c0 (no (fun e => c0 (by rw [e]; rfl)))
theorem specPatchOk_ev (xs : List IOp) (hl : xs.length ≤ 1048576) (hs : ∀ x ∈ xs, smOpI x) : Ev (fun k => spec_PatchOk.f k xs) (patB xs) := by
  unfold spec_PatchOk.f patB
  have go : ∀ i, i < xs.length → ∀ r, (opB (rd_T77 xs (i : Nat)) = true → Ev (fun k => spec_PatchOk.l0 k xs ((i + 1 : Nat) : Int)) r) → (opB (rd_T77 xs (i : Nat)) = false → r = false) → Ev (fun k => spec_PatchOk.l0 k xs (i : Nat)) r := by
    intro i hi r hr hf
    have e := rdIO hi
    rw [e] at hr hf
    obtain ⟨hp, n, hn⟩ := hs _ (List.getElem_mem hi)
    refine Ev.step (fun k => by rw [spec_PatchOk.l0]) ?_
    simp only [e, wsucc hi (by omega : xs.length ≤ 9223372036854775807), l1In_f, Option.bind_some]
    refine ev_if_pos (by omega) (ev_if_pos (by omega) ?_)
    generalize xs[i] = x at hr hf hp hn
    have no : ∀ b : Bool, b = true → opB x = false → Ev (fun k => spec_PatchOk.j1 k xs i b x.f0 x.f1 x.f2.f0 x.f2.f1 x.f2.f2 x.f2.f3 x.f2.f4) r := fun b hb h => by
      rw [hf h]
      exact Ev.step (fun k => by rw [spec_PatchOk.j1]) (ev_if_pos hb (Ev.now _))
    cases h1 : inB x.f0 1 3 with
    | false => exact ev_if_neg Bool.false_ne_true (no _ rfl (by simp [opB, h1]))
    | true =>
      refine ev_if_pos rfl (Ev.bind (l5Path_ev x.f1 hp) ?_)
      cases h2 : pathB x.f1 with
      | false => exact no _ rfl (by simp [opB, h1, h2])
      | true =>
        refine Ev.step (fun k => by rw [spec_PatchOk.j1]) (ev_if_neg (by simp) ?_)
        simp only [wsucc hi (by omega : xs.length ≤ 9223372036854775807)]
        by_cases c : x.f0 = 2
        · refine ev_if_pos c (Ev.bind (l5Zero_ev x.f2) ?_)
          cases h3 : same x.f2 zeroV with
          | false => rw [hf (by simp [opB, h1, h2, c, h3])]; exact ev_if_neg Bool.false_ne_true (Ev.now _)
          | true => exact ev_if_pos rfl (hr (by simp [opB, h1, h2, c, h3, inB]))
        · refine ev_if_neg c (Ev.bind (specValueOk_ev x.f2 hn) ?_)
          cases h3 : valB x.f2 with
          | false => rw [hf (by simp [opB, h1, h2, c, h3])]; exact ev_if_neg Bool.false_ne_true (Ev.now _)
          | true => exact ev_if_pos rfl (hr (by simp [opB, h1, h2, c, h3]))
  refine loop_all (g := fun k i => spec_PatchOk.l0 k xs i) xs.length _ _ ?_ ?_ ?_
  · intro i hi hok r hr
    exact go i hi r (fun _ => hr) (fun h => by rw [hok] at h; cases h)
  · intro i hi hok
    exact go i hi false (fun h => by rw [hok] at h; cases h) (fun _ => rfl)
  · exact Ev.step (fun k => by rw [spec_PatchOk.l0]) (ev_if_neg (by omega) (Ev.now _))
theorem opOk_ev (x : IOp) (h : smOpI x) : Ev (fun k => impl_opOk.f k x.f0 x.f1 x.f2.f0 x.f2.f1 x.f2.f2 x.f2.f3 x.f2.f4) (opB x) := by
  obtain ⟨hp, n, hn⟩ := h
  have hw : wfStrs x.f1 := wfStrs_of hp
  unfold impl_opOk.f
  simp only [within_f, Option.bind_some]
  have no : ∀ b : Bool, b = true → pathB x.f1 = false → Ev (fun k => impl_opOk.j0 k b x.f0 x.f1 x.f2.f0 x.f2.f1 x.f2.f2 x.f2.f3 x.f2.f4) (opB x) := fun b hb h => by
    have e : opB x = false := by simp [opB, h]
    rw [e]
    exact Ev.step (fun k => by rw [impl_opOk.j0]) (ev_if_pos hb (Ev.now _))
  cases h1 : inB x.f1.length 1 5 with
  | false => exact ev_if_neg Bool.false_ne_true (no _ rfl (by simp [pathB, h1]))
  | true =>
    refine ev_if_pos rfl ?_
    obtain ⟨r, hr, he⟩ := idxO_ev' (p := fun k (s : ByteArray) => impl_opOk_1.f k s) (q := fun s => !wordB s) x.f1 0 (fun s hs => by
      have h2 := hw.2 s hs
      unfold impl_opOk_1.f
      refine Ev.bind (implNameOk_ev s h2) ?_
      unfold wordB
      cases nameB s with
      | true => exact ev_if_pos rfl (ev_some (by simp))
      | false => exact ev_if_neg Bool.false_ne_true (Ev.bind (isNumber_ev s h2) (ev_some (by simp))))
    refine Ev.bind (a := decide (0 ≤ r)) (Ev.congr (fun k => by rw [impl_opOk_h98.f]) (Ev.bind hr (Ev.now _))) ?_
    rw [he]
    have hall : pathB x.f1 = !x.f1.any (fun s => !wordB s) := by
      unfold pathB
      rw [h1, Bool.true_and, any_allN' x.f1 wordB (fun i => rdOf ByteArray.empty x.f1 (i : Nat)) (fun i hi => rdS hi)]
    cases h2 : x.f1.any (fun s => !wordB s) with
    | true => exact no _ rfl (by rw [hall, h2]; rfl)
    | false =>
      rw [h2] at hall
      refine Ev.step (fun k => by rw [impl_opOk.j0]) (ev_if_neg Bool.false_ne_true ?_)
      have j1 : ∀ b : Bool, b = (x.f0 == 1 || x.f0 == 3) → Ev (fun k => impl_opOk.j1 k x.f0 b x.f0 x.f1 x.f2.f0 x.f2.f1 x.f2.f2 x.f2.f3 x.f2.f4) (opB x) := by
        intro b hb
        refine Ev.step (fun k => by rw [impl_opOk.j1]) ?_
        cases b with
        | true =>
          refine ev_if_pos rfl (Ev.bind (implValueOk_ev x.f2 hn) (ev_some ?_))
          have : x.f0 = 1 ∨ x.f0 = 3 := by simpa using hb.symm
          unfold opB inB
          rw [hall, if_neg (by omega), decide_eq_true (by omega)]; rfl
        | false =>
          have hb' : ¬ (x.f0 = 1 ∨ x.f0 = 3) := by simpa using hb.symm
          refine ev_if_neg Bool.false_ne_true ?_
          by_cases c : x.f0 = 2
          · refine ev_if_pos c (Ev.bind (implSame_ev n x.f2 zeroV hn) (ev_some ?_))
            unfold opB inB
            rw [hall, if_pos c, decide_eq_true (by omega)]; rfl
          · refine ev_if_neg c (ev_some ?_)
            unfold opB inB
            rw [decide_eq_false (by omega), Bool.false_and]
      exact ev_if (fun c => j1 _ (by simp [c])) (fun c => j1 _ (by simp [c]))
theorem implPatchOk_ev (xs : List IOp) (hl : xs.length ≤ 1048576) (hs : ∀ x ∈ xs, smOpI x) : Ev (fun k => impl_PatchOk.f k xs) (patB xs) := by
  unfold impl_PatchOk.f patB
  by_cases c : (xs.length : Int) ≤ 20
  · rw [decide_eq_true c, Bool.and_true]
    refine ev_if_pos c ?_
    obtain ⟨r, hr, he⟩ := idxO_ev' (p := fun k (x : IOp) => impl_PatchOk_1.f k x.f0 x.f1 x.f2.f0 x.f2.f1 x.f2.f2 x.f2.f3 x.f2.f4) (q := fun x => !opB x) xs 0 (fun x hx => by
      unfold impl_PatchOk_1.f
      exact Ev.bind (opOk_ev x (hs x hx)) (Ev.now _))
    refine Ev.bind (a := decide (0 ≤ r)) (Ev.congr (fun k => by rw [impl_PatchOk_h66.f]) (Ev.bind hr (Ev.now _))) (ev_some ?_)
    rw [he, any_allN' xs opB (fun i => rd_T77 xs (i : Nat)) (fun i hi => rdIO hi)]
  · rw [decide_eq_false c, Bool.and_false]
    exact ev_if_neg c (Ev.now _)
end Go.Proofs.Ytchhognpijobcaa.G
