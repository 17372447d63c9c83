import Derived.Test.YtpjpnppoejnafaaDoorMFnExactParseSelectorCard1
import Derived.Test.YtpjpnppoejnafaaDoorMFnExactParseSelectorCard2
import Derived.Test.YtpjpnppoejnafaaDoorMFnExactParseSelectorCard5
import Derived.Test.YtpjpnppoejnafaaDoorMFnExactParseSelectorCard7
import Derived.Test.YtpjpnppoejnafaaDoorMFnExactParseSelectorCard4
import Derived.Test.YtpjpnppoejnafaaDoorMFnExactParseSelectorCard6
/- G12 -/
-- Laid by wip/g/gprint.py out of the translation, by the kit's print program. Lean checks it.
namespace Go.Proofs.YtpjpnppoejnafaaDoor.G
open Go.RowKit Go.Proofs.YtpjpnppoejnafaaDoorW.PrintWords Go.Proofs.YtpjpnppoejnafaaDoorW.PrintLast Go.Proofs.YtpjpnppoejnafaaDoorW.PrintMore
attribute [local go_sem] max2_int min2_int max_two min_two max_three min_three max_four min_four   -- for this text's walks alone
set_option linter.unusedVariables false
set_option linter.unusedSimpArgs false

/-! ### spec_ParseSelector: function 12 -/
def spec_ParseSelector.l0 : Nat → ByteArray → List (S59) → List ByteArray → Int → Option ((List (S59)) × Bool)
  | 0, _, _, _, _ => none
  | k + 1, x0, x4, x5, x6 => if x6 < (x5.length : Int) then (if 0 ≤ x6 then ((spec_l2Read.f k (rdOf ByteArray.empty x5 x6)).bind fun bt246 => (if x4.length < 2932031007402 then (spec_ParseSelector.l0 k x0 (x4 ++ [(⟨bt246.1, bt246.2.1, bt246.2.2⟩ : S59)]) x5 (wrap64 (x6 + 1))) else (none))) else (none)) else ((spec_SelectorOk.f k x4).bind fun t254 => (if t254 = true then ((spec_SelectorText.f k x4).bind fun t255 => (if t255.toList = x0.toList then (some (x4, true)) else (some ((([] : List (S59))), false)))) else (some ((([] : List (S59))), false))))
def spec_ParseSelector.f (k : Nat) (a0 : ByteArray) : Option ((List (S59)) × Bool) := (some (([] : List (S59)) : List (S59))).bind fun y239 => (if a0.toList = ([] : List UInt8) then (some (y239, true)) else ((spec_l1Split.f k a0 44).bind fun t242 => (spec_ParseSelector.l0 k a0 y239 t242 0)))
set_option maxHeartbeats 8000000 in
set_option maxRecDepth 100000 in
theorem spec_ParseSelector.calls (k : Nat) (a0 : ByteArray) (r1 : List (S59)) (r2 : Bool) (w : World) (h : spec_ParseSelector.f k a0 = some (r1, r2)) :
    Calls Tryd.prog 12 #[.string a0] w fun e w' => ∃ v0_ : Value, e = .returned (.tuple #[v0_, .bool r2]) ∧ Kd.S k59 59 w' w.heap.size (fun _ => True) v0_ r1 ∧ Below w.heap.size w w' := by
  have HB := Aside0.mk (Below.refl w.heap.size w)
  have H : ((some (([] : List (S59)) : List (S59))).bind fun y239 => (if a0.toList = ([] : List UInt8) then (some (y239, true)) else ((spec_l1Split.f k a0 44).bind fun t242 => (spec_ParseSelector.l0 k a0 y239 t242 0)))) = some (r1, r2) := h
  clear h
  obtain ⟨y239, hy239⟩ : ∃ y_ : List (S59), y_ = (([] : List (S59))) := ⟨_, rfl⟩
  replace H : (if a0.toList = ([] : List UInt8) then (some (y239, true)) else ((spec_l1Split.f k a0 44).bind fun t242 => (spec_ParseSelector.l0 k a0 y239 t242 0))) = some (r1, r2) := by first | (rw [hy239]; with_reducible exact H) | (have H2_ := (Option.bind_some _ _).symm.trans H; rw [hy239]; with_reducible exact H2_) | (have H2_ := (Option.bind_some _ _).symm.trans H; with_reducible exact H2_) | with_reducible exact H | (rw [hy239]; exact H) | exact H
  have Ny239 := Aside0.mk hy239
  clear hy239
  by_cases c2 : a0.toList = ([] : List UInt8)
  · rw [if_pos c2] at H
    have c2b0 : (a0.toList == ([] : List UInt8)) = true := beq_iff_eq.mpr c2
    have c2b1 : (a0.toList != ([] : List UInt8)) = false := bne_eq_false_iff_eq.mpr c2
    clear c2
    simp only [Option.some.injEq, Prod.mk.injEq] at H
    obtain ⟨rfl, rfl⟩ := H
    go_enter Tryd.func12, Tryd.ntmps12
    go_wp2_with (first | ((with_reducible refine gate_dst (N := 7) rfl ?_); refine Kd.S_lit k59 _ 59 ?hg (N := 7) ?hd (xs := ([] : List (S59))) (inner := []) (ok := fun _ => True) (okp := fun _ => True) ?hr ?hp (fun _ hk => hk) trivial (Below.refl _ _) (Nat.le_refl _) (by simp) ?_; (case hd => rfl); (case hg => rfl); (case hr => first | (go_simp; done) | (go_simp; rfl)); (case hp => exact (Reps.none _ _)); intro v240 w3 ho4 hb hg_ hnew_; clear hg_ hnew_; (first | rw [← Ny239.out] at ho4 | (simp only [Int.reduceToNat] at ho4; rw [← Ny239.out] at ho4)); have n0_ := Aside0.mk (Kd.S_lower ho4 (below_size (by repeat (first | (with_reducible first | exact HB.out | apply below_alloc | apply pw_below_drewN | apply below_drew1) | exact HB.out)))); have n1_ := Aside0.mk (below_step (by repeat (first | (with_reducible first | exact HB.out | apply below_alloc | apply pw_below_drewN | apply below_drew1) | exact HB.out)) hb); clear HB; have HO241 := n0_; have HB := n1_; clear n0_ n1_; clear hb ho4))
    go_ret2
    exact ⟨_, by first | rfl | (simp [errW_none, errW_some] <;> rfl) | (simp [*, errW_none, errW_some] <;> rfl), by (with_reducible repeat (first | apply Kd.S_alloc | apply Kd.S_drewN | apply Kd.S_drew)); exact HO241.out, by repeat (first | (with_reducible first | exact HB.out | apply below_alloc | apply pw_below_drewN | apply below_drew1) | exact HB.out)⟩
  · rw [if_neg c2] at H
    have c2b0 : (a0.toList == ([] : List UInt8)) = false := beq_eq_false_iff_ne.mpr c2
    have c2b1 : (a0.toList != ([] : List UInt8)) = true := bne_iff_ne.mpr c2
    replace H := Option.bind_eq_some_iff.mp H
    obtain ⟨t242, A50, H⟩ := H
    replace H : (spec_ParseSelector.l0 k a0 y239 t242 0) = some (r1, r2) := H
    have A5 := Aside0.mk A50
    clear A50
    have H' := Aside0.mk H
    clear H
    go_enter Tryd.func12, Tryd.ntmps12
    go_wp2_with (first | ((with_reducible refine gate_dst (N := 7) rfl ?_); refine Kd.S_lit k59 _ 59 ?hg (N := 7) ?hd (xs := ([] : List (S59))) (inner := []) (ok := fun _ => True) (okp := fun _ => True) ?hr ?hp (fun _ hk => hk) trivial (Below.refl _ _) (Nat.le_refl _) (by simp) ?_; (case hd => rfl); (case hg => rfl); (case hr => first | (go_simp; done) | (go_simp; rfl)); (case hp => exact (Reps.none _ _)); intro v240 w6 ho7 hb hg_ hnew_; clear hg_ hnew_; (first | rw [← Ny239.out] at ho7 | (simp only [Int.reduceToNat] at ho7; rw [← Ny239.out] at ho7)); have n0_ := Aside0.mk (Kd.S_lower ho7 (below_size (by repeat (first | (with_reducible first | exact HB.out | apply below_alloc | apply pw_below_drewN | apply below_drew1) | exact HB.out)))); have n1_ := Aside0.mk (below_step (by repeat (first | (with_reducible first | exact HB.out | apply below_alloc | apply pw_below_drewN | apply below_drew1) | exact HB.out)) hb); clear HB; have HO241 := n0_; have HB := n1_; clear n0_ n1_; clear hb ho7) | ((with_reducible refine gate_callee (f := 34) rfl ?_); refine goesL_ (some 12) rfl rfl Tryd.func34 (by kernel_rfl) rfl #[.string a0, .int .u8 44] rfl (by (try simp only [List.map_toArray, List.map_cons, List.map_nil]); first | done | rfl | (simp only [List.length_drop, List.length_take]; rfl)) ?_; (with_reducible refine (spec_l1Split.calls k a0 44 t242 _ A5.out).mono ?_); rintro e w8 ⟨v243, rfl, ho0, hb⟩; refine ⟨_, rfl, ?_⟩; have n0_ := Aside0.mk (Kd.S_elder' (by (with_reducible repeat (first | apply Kd.S_alloc | apply Kd.S_drewN | apply Kd.S_drew)); exact HO241.out) (Kd.R_base ho0) hb); have n1_ := Aside0.mk (Kd.R_lower ho0 (below_size (by repeat (first | (with_reducible first | exact HB.out | apply below_alloc | apply pw_below_drewN | apply below_drew1) | exact HB.out)))); have n2_ := Aside0.mk (below_step (by repeat (first | (with_reducible first | exact HB.out | apply below_alloc | apply pw_below_drewN | apply below_drew1) | exact HB.out)) hb); clear HO241; clear HB; have HO241 := n0_; have HO244 := n1_; have HB := n2_; clear n0_ n1_ n2_; (try clear hb); (try clear hb2); (try clear hk); (try clear hi); (try clear ho0)))
    go_loopg [4, 6] k (fun kq v4 v6 w' => ∃ (x4_1 : List (S59)) (x6_1 : Int), v6 = .int .i64 x6_1 ∧ Aside0 (spec_ParseSelector.l0 kq a0 x4_1 t242 x6_1 = some (r1, r2)) ∧ Aside0 (kq ≤ k) ∧ Aside0 (Kd.S k59 59 w' w.heap.size (fun k_ => some k_ ≠ (v243 : Value).ownBlock) v4 x4_1) ∧ Aside0 (Kd.R Kd.string 9 w' w.heap.size (fun _ => True) v243 t242) ∧ Aside0 (Below w.heap.size w w'))
    case atStart => exact ⟨(y239), (0), (by first | rfl | (simp; done) | (simp [*]; done)), H', ⟨Nat.le_refl _⟩, ⟨by (with_reducible repeat (first | apply Kd.S_alloc | apply Kd.S_drewN | apply Kd.S_drew)); exact Kd.S_mono HO241.out (fun _ hk => hk.2)⟩, ⟨by (with_reducible repeat (first | apply Kd.R_alloc | apply Kd.R_drewN | apply Kd.R_drew)); exact HO244.out⟩, ⟨by repeat (first | (with_reducible first | exact HB.out | apply below_alloc | apply pw_below_drewN | apply below_drew1) | exact HB.out)⟩⟩
    case round =>
      clear H'
      try clear c1
      try clear c2
      try clear c2b0
      try clear c2b1
      try clear p2
      try clear c3
      obtain ⟨x4_1, x6_1, rfl, HA, HK1, HO_4, HO_5, HB⟩ := hrel
      cases gk with
      | zero => exact absurd HA.out (by simp [spec_ParseSelector.l0])
      | succ k1 =>
        have H := HA.out
        clear HA
        simp only [spec_ParseSelector.l0] at H
        by_cases c9 : x6_1 < (t242.length : Int)
        · rw [if_pos c9] at H
          have c9b0 : decide (x6_1 < (t242.length : Int)) = true := decide_eq_true c9
          clear c9
          by_cases c10 : 0 ≤ x6_1
          · rw [if_pos c10] at H
            have c10b0 : decide (0 ≤ x6_1) = true := decide_eq_true c10
            clear c10
            replace H := Option.bind_eq_some_iff.mp H
            obtain ⟨⟨t246, t247, t248⟩, A110, H⟩ := H
            replace H : (if x4_1.length < 2932031007402 then (spec_ParseSelector.l0 k1 a0 (x4_1 ++ [(⟨t246, t247, t248⟩ : S59)]) t242 (wrap64 (x6_1 + 1))) else (none)) = some (r1, r2) := H
            have A11 := Aside0.mk A110
            clear A110
            by_cases c12 : x4_1.length < 2932031007402
            · rw [if_pos c12] at H
              have LMc12 := Aside0.mk c12
              clear c12
              obtain ⟨y251, hy251⟩ : ∃ y_ : List (S59), y_ = (x4_1 ++ [(⟨t246, t247, t248⟩ : S59)]) := ⟨_, rfl⟩
              replace H : (spec_ParseSelector.l0 k1 a0 y251 t242 (wrap64 (x6_1 + 1))) = some (r1, r2) := by first | (rw [hy251]; with_reducible exact H) | (have H2_ := (Option.bind_some _ _).symm.trans H; rw [hy251]; with_reducible exact H2_) | (have H2_ := (Option.bind_some _ _).symm.trans H; with_reducible exact H2_) | with_reducible exact H | (rw [hy251]; exact H) | exact H
              have Ny251 := Aside0.mk hy251
              clear hy251
              have H' := Aside0.mk H
              clear H
              obtain ⟨Ao13, co13, eo13⟩ := Kd.R_slice HO_5.out
              subst eo13
              have p245 : 0 ≤ (x6_1 : Int) := of_decide_eq_true (by first | (with_reducible assumption) | assumption)
              have q245 : x6_1 < (t242.length : Int) := of_decide_eq_true (by first | (with_reducible assumption) | assumption)
              obtain ⟨ad245, e245, hx245_0⟩ := Kd.at_string (Kd.R_reads' HO_5.out).2.2 x6_1 p245 q245
              cases e245
              replace p245 := eq_true p245
              replace q245 := eq_true q245
              go_wp2_with (first | ((with_reducible refine gate_callee (f := 40) rfl ?_); refine goesL_ (some 24) rfl rfl Tryd.func40 (by kernel_rfl) rfl #[.string (rdOf ByteArray.empty t242 x6_1)] rfl (by (try simp only [List.map_toArray, List.map_cons, List.map_nil]); first | done | rfl | (simp only [List.length_drop, List.length_take]; rfl)) ?_; (with_reducible refine (spec_l2Read.calls k1 (rdOf ByteArray.empty t242 x6_1) t246 t247 t248 _ A11.out).mono ?_); rintro e w14 ⟨v249, rfl, ho0, hb⟩; refine ⟨_, rfl, ?_⟩; have n0_ := Aside0.mk (Kd.S_elder' (by (with_reducible repeat (first | apply Kd.S_alloc | apply Kd.S_drewN | apply Kd.S_drew)); exact HO_4.out) (Kd.R_base ho0) hb); have n1_ := Aside0.mk (Kd.R_elder' (by (with_reducible repeat (first | apply Kd.R_alloc | apply Kd.R_drewN | apply Kd.R_drew)); exact HO_5.out) (Kd.R_base ho0) hb); have n2_ := Aside0.mk (Kd.R_lower (Kd.R_new' ho0 (Kd.R_lt (by (with_reducible repeat (first | apply Kd.R_alloc | apply Kd.R_drewN | apply Kd.R_drew)); exact HO_5.out))) (below_size (by repeat (first | (with_reducible first | exact HB.out | apply below_alloc | apply pw_below_drewN | apply below_drew1) | exact HB.out)))); have n3_ := Aside0.mk (below_step (by repeat (first | (with_reducible first | exact HB.out | apply below_alloc | apply pw_below_drewN | apply below_drew1) | exact HB.out)) hb); clear HO_4; clear HO_5; clear HB; have HO_4 := n0_; have HO_5 := n1_; have HO250 := n2_; have HB := n3_; clear n0_ n1_ n2_ n3_; (try clear hb); (try clear hb2); (try clear hk); (try clear hi); (try clear ho0); obtain ⟨Ao16, co16, eo16⟩ := Kd.R_slice HO250.out; subst eo16) | ((with_reducible refine gate_builtin (b := .append) (xs := #[.tmp 19, .tmp 25]) rfl ?_); at_builtin; refine Kd.S_append k59 (w0 := w) w.heap.size rfl (.tmp 19) (.tmp 25) 28 59 (.agg #[(.int .i64 0), (.string ⟨#[]⟩), (.slice none 0 0)]) 48 rfl Tryd.underlying28 info59 rfl (by decide) (by omega) u4 x4_1 (⟨t246, t247, t248⟩ : S59) [.int .i64 t246, .string t247, .slice Ao16 t248.length co16] (fun k_ => some k_ ≠ (.slice (some ad245) t242.length co13 : Value).ownBlock) (fun k_ => some k_ = (.slice Ao16 t248.length co16 : Value).ownBlock) rfl rfl ?aP (fun k_ hk_ => ((Kd.R_mono (ok' := fun k_ => ((fun k_ => some k_ ≠ (.slice (some ad245) t242.length co13 : Value).ownBlock)) k_ ∧ some k_ ≠ (u4 : Value).ownBlock) (Kd.R_apart' (HO250.out) (Kd.S_typed HO_4.out) (by decide)) (fun k_ hk => ⟨hk.1.2, hk.2⟩))).1 k_ hk_.symm) ?aF ?aO ?aB ?aS ?aL ?_; (case aP => exact k59_mkM _ _ _ (⟨t246, t247, t248⟩ : S59) (Kd.R_mono (Kd.R_tight rfl (Kd.R_mono (ok' := fun k_ => ((fun k_ => some k_ ≠ (.slice (some ad245) t242.length co13 : Value).ownBlock)) k_ ∧ some k_ ≠ (u4 : Value).ownBlock) (Kd.R_apart' (HO250.out) (Kd.S_typed HO_4.out) (by decide)) (fun k_ hk => ⟨hk.1.2, hk.2⟩))) (fun _ h_ => h_))); (case aB => exact (by repeat (first | (with_reducible first | exact HB.out | apply below_alloc | apply pw_below_drewN | apply below_drew1) | exact HB.out))); (case aF => exact (fun k_ hk => Kd.fresh' (Kd.R_lt (by (with_reducible repeat (first | apply Kd.R_alloc | apply Kd.R_drewN | apply Kd.R_drew)); exact HO_5.out)) k_ hk)); (case aO => exact (by (with_reducible repeat (first | apply Kd.S_alloc | apply Kd.S_drewN | apply Kd.S_drew)); exact Kd.S_mono HO_4.out (fun k_ hk => ⟨hk.1, fun e_ => hk.2 e_⟩))); (case aS => exact (below_size (by repeat (first | (with_reducible first | exact HB.out | apply below_alloc | apply pw_below_drewN | apply below_drew1) | exact HB.out)))); (case aL => have := LMc12.out; omega); intro v252 w15 ho hb hg hat; rw [← Ny251.out] at ho; have n0_ := Aside0.mk (Kd.R_over' (by (with_reducible repeat (first | apply Kd.R_alloc | apply Kd.R_drewN | apply Kd.R_drew)); exact HO_5.out) (Kd.S_typed (by (with_reducible repeat (first | apply Kd.S_alloc | apply Kd.S_drewN | apply Kd.S_drew)); exact HO_4.out)) (by decide) hg); have n1_ := Aside0.mk (hb); have n2_ := Aside0.mk (ho); clear HO_5; clear HB; clear HO_4; clear HO250; have HO_5 := n0_; have HB := n1_; have HO253 := n2_; clear n0_ n1_ n2_; clear ho hb hg hat))
              go_roundg k1
              case measure => have := HK1.out; omega
              case rel => exact ⟨(y251), (wrap64 (x6_1 + 1)), (by first | rfl | (simp; done) | (simp [*]; done)), H', ⟨by have := HK1.out; omega⟩, ⟨by (with_reducible repeat (first | apply Kd.S_alloc | apply Kd.S_drewN | apply Kd.S_drew)); exact HO253.out⟩, ⟨by (with_reducible repeat (first | apply Kd.R_alloc | apply Kd.R_drewN | apply Kd.R_drew)); exact Kd.R_mono HO_5.out (fun _ hk => trivial)⟩, ⟨by repeat (first | (with_reducible first | exact HB.out | apply below_alloc | apply pw_below_drewN | apply below_drew1) | exact HB.out)⟩⟩
            · rw [if_neg c12] at H
              exact absurd H (by simp)
          · rw [if_neg c10] at H
            exact absurd H (by simp)
        · rw [if_neg c9] at H
          have c9b0 : decide (x6_1 < (t242.length : Int)) = false := decide_eq_false c9
          clear c9
          replace H := Option.bind_eq_some_iff.mp H
          obtain ⟨t254, A170, H⟩ := H
          replace H : (if t254 = true then ((spec_SelectorText.f k1 x4_1).bind fun t255 => (if t255.toList = a0.toList then (some (x4_1, true)) else (some ((([] : List (S59))), false)))) else (some ((([] : List (S59))), false))) = some (r1, r2) := H
          have A17 := Aside0.mk A170
          clear A170
          by_cases c18 : t254 = true
          · subst c18
            have H1 : ((spec_SelectorText.f k1 x4_1).bind fun t255 => (if t255.toList = a0.toList then (some (x4_1, true)) else (some ((([] : List (S59))), false)))) = some (r1, r2) := by rw [if_pos rfl] at H; exact H
            clear H
            have H := H1
            clear H1
            replace H := Option.bind_eq_some_iff.mp H
            obtain ⟨t255, A190, H⟩ := H
            replace H : (if t255.toList = a0.toList then (some (x4_1, true)) else (some ((([] : List (S59))), false))) = some (r1, r2) := H
            have A19 := Aside0.mk A190
            clear A190
            by_cases c20 : t255.toList = a0.toList
            · rw [if_pos c20] at H
              have c20b0 : (t255.toList == a0.toList) = true := beq_iff_eq.mpr c20
              have c20b1 : (t255.toList != a0.toList) = false := bne_eq_false_iff_eq.mpr c20
              clear c20
              simp only [Option.some.injEq, Prod.mk.injEq] at H
              obtain ⟨rfl, rfl⟩ := H
              obtain ⟨Ao21, co21, eo21⟩ := Kd.R_slice HO_5.out
              subst eo21
              obtain ⟨Ao22, co22, eo22⟩ := Kd.S_slice HO_4.out
              subst eo22
              go_wp2_with (first | ((with_reducible refine gate_callee (f := 29) rfl ?_); refine goesL_ (some 28) rfl rfl Tryd.func29 (by kernel_rfl) rfl #[.slice Ao22 x4_1.length co22] rfl (by (try simp only [List.map_toArray, List.map_cons, List.map_nil]); first | done | rfl | (simp only [List.length_drop, List.length_take]; rfl)) ?_; (with_reducible refine (spec_SelectorOk.calls k1 _ _ x4_1 true _ ?side1 ?side2 A17.out).mono ?_); (case side1 => repeat (first | exact (Kd.S_reads' HO_4.out).2.2 | (with_reducible refine Kd.C_alloc ?_ _) | (with_reducible refine Kd.C_drewN ?_ _) | (with_reducible refine Kd.C_drew ?_))); (case side2 => exact (Kd.S_reads' HO_4.out).2.1); rintro e w23 ⟨rfl, hb⟩; refine ⟨_, rfl, ?_⟩; have n0_ := Aside0.mk (Kd.S_below (by (with_reducible repeat (first | apply Kd.S_alloc | apply Kd.S_drewN | apply Kd.S_drew)); exact HO_4.out) hb); have n1_ := Aside0.mk (Kd.R_below (by (with_reducible repeat (first | apply Kd.R_alloc | apply Kd.R_drewN | apply Kd.R_drew)); exact HO_5.out) hb); have n2_ := Aside0.mk (below_step (by repeat (first | (with_reducible first | exact HB.out | apply below_alloc | apply pw_below_drewN | apply below_drew1) | exact HB.out)) hb); clear HO_4; clear HO_5; clear HB; have HO_4 := n0_; have HO_5 := n1_; have HB := n2_; clear n0_ n1_ n2_; (try clear hb); (try clear hb2); (try clear hk); (try clear hi)) | (go_at_call 41; (with_reducible refine (spec_SelectorText.calls k1 _ _ x4_1 t255 _ ?side1 ?side2 A19.out).mono ?_); (case side1 => repeat (first | exact (Kd.S_reads' HO_4.out).2.2 | (with_reducible refine Kd.C_alloc ?_ _) | (with_reducible refine Kd.C_drewN ?_ _) | (with_reducible refine Kd.C_drew ?_))); (case side2 => exact (Kd.S_reads' HO_4.out).2.1); rintro e w24 ⟨rfl, hb⟩; have n0_ := Aside0.mk (Kd.S_below (by (with_reducible repeat (first | apply Kd.S_alloc | apply Kd.S_drewN | apply Kd.S_drew)); exact HO_4.out) hb); have n1_ := Aside0.mk (Kd.R_below (by (with_reducible repeat (first | apply Kd.R_alloc | apply Kd.R_drewN | apply Kd.R_drew)); exact HO_5.out) hb); have n2_ := Aside0.mk (below_step (by repeat (first | (with_reducible first | exact HB.out | apply below_alloc | apply pw_below_drewN | apply below_drew1) | exact HB.out)) hb); clear HO_4; clear HO_5; clear HB; have HO_4 := n0_; have HO_5 := n1_; have HB := n2_; clear n0_ n1_ n2_; (try clear hb); (try clear hb2); (try clear hk); (try clear hi)))
              go_ret2
              exact ⟨_, by first | rfl | (simp [errW_none, errW_some] <;> rfl) | (simp [*, errW_none, errW_some] <;> rfl), by (with_reducible repeat (first | apply Kd.S_alloc | apply Kd.S_drewN | apply Kd.S_drew)); exact Kd.S_mono HO_4.out (fun _ hk => trivial), by repeat (first | (with_reducible first | exact HB.out | apply below_alloc | apply pw_below_drewN | apply below_drew1) | exact HB.out)⟩
            · rw [if_neg c20] at H
              have c20b0 : (t255.toList == a0.toList) = false := beq_eq_false_iff_ne.mpr c20
              have c20b1 : (t255.toList != a0.toList) = true := bne_iff_ne.mpr c20
              obtain ⟨y256, hy256⟩ : ∃ y_ : List (S59), y_ = (([] : List (S59))) := ⟨_, rfl⟩
              replace H : (some (y256, false)) = some (r1, r2) := by first | (rw [hy256]; with_reducible exact H) | (have H2_ := (Option.bind_some _ _).symm.trans H; rw [hy256]; with_reducible exact H2_) | (have H2_ := (Option.bind_some _ _).symm.trans H; with_reducible exact H2_) | with_reducible exact H | (rw [hy256]; exact H) | exact H
              have Ny256 := Aside0.mk hy256
              clear hy256
              simp only [Option.some.injEq, Prod.mk.injEq] at H
              obtain ⟨rfl, rfl⟩ := H
              obtain ⟨Ao25, co25, eo25⟩ := Kd.R_slice HO_5.out
              subst eo25
              obtain ⟨Ao26, co26, eo26⟩ := Kd.S_slice HO_4.out
              subst eo26
              go_wp2_with (first | ((with_reducible refine gate_callee (f := 29) rfl ?_); refine goesL_ (some 28) rfl rfl Tryd.func29 (by kernel_rfl) rfl #[.slice Ao26 x4_1.length co26] rfl (by (try simp only [List.map_toArray, List.map_cons, List.map_nil]); first | done | rfl | (simp only [List.length_drop, List.length_take]; rfl)) ?_; (with_reducible refine (spec_SelectorOk.calls k1 _ _ x4_1 true _ ?side1 ?side2 A17.out).mono ?_); (case side1 => repeat (first | exact (Kd.S_reads' HO_4.out).2.2 | (with_reducible refine Kd.C_alloc ?_ _) | (with_reducible refine Kd.C_drewN ?_ _) | (with_reducible refine Kd.C_drew ?_))); (case side2 => exact (Kd.S_reads' HO_4.out).2.1); rintro e w27 ⟨rfl, hb⟩; refine ⟨_, rfl, ?_⟩; have n0_ := Aside0.mk (Kd.S_below (by (with_reducible repeat (first | apply Kd.S_alloc | apply Kd.S_drewN | apply Kd.S_drew)); exact HO_4.out) hb); have n1_ := Aside0.mk (Kd.R_below (by (with_reducible repeat (first | apply Kd.R_alloc | apply Kd.R_drewN | apply Kd.R_drew)); exact HO_5.out) hb); have n2_ := Aside0.mk (below_step (by repeat (first | (with_reducible first | exact HB.out | apply below_alloc | apply pw_below_drewN | apply below_drew1) | exact HB.out)) hb); clear HO_4; clear HO_5; clear HB; have HO_4 := n0_; have HO_5 := n1_; have HB := n2_; clear n0_ n1_ n2_; (try clear hb); (try clear hb2); (try clear hk); (try clear hi)) | (go_at_call 41; (with_reducible refine (spec_SelectorText.calls k1 _ _ x4_1 t255 _ ?side1 ?side2 A19.out).mono ?_); (case side1 => repeat (first | exact (Kd.S_reads' HO_4.out).2.2 | (with_reducible refine Kd.C_alloc ?_ _) | (with_reducible refine Kd.C_drewN ?_ _) | (with_reducible refine Kd.C_drew ?_))); (case side2 => exact (Kd.S_reads' HO_4.out).2.1); rintro e w28 ⟨rfl, hb⟩; have n0_ := Aside0.mk (Kd.S_below (by (with_reducible repeat (first | apply Kd.S_alloc | apply Kd.S_drewN | apply Kd.S_drew)); exact HO_4.out) hb); have n1_ := Aside0.mk (Kd.R_below (by (with_reducible repeat (first | apply Kd.R_alloc | apply Kd.R_drewN | apply Kd.R_drew)); exact HO_5.out) hb); have n2_ := Aside0.mk (below_step (by repeat (first | (with_reducible first | exact HB.out | apply below_alloc | apply pw_below_drewN | apply below_drew1) | exact HB.out)) hb); clear HO_4; clear HO_5; clear HB; have HO_4 := n0_; have HO_5 := n1_; have HB := n2_; clear n0_ n1_ n2_; (try clear hb); (try clear hb2); (try clear hk); (try clear hi)) | ((with_reducible refine gate_dst (N := 36) rfl ?_); refine Kd.S_lit k59 _ 59 ?hg (N := 36) ?hd (xs := ([] : List (S59))) (inner := []) (ok := fun _ => True) (okp := fun _ => True) ?hr ?hp (fun _ hk => hk) trivial (Below.refl _ _) (Nat.le_refl _) (by simp) ?_; (case hd => rfl); (case hg => rfl); (case hr => first | (go_simp; done) | (go_simp; rfl)); (case hp => exact (Reps.none _ _)); intro v257 w29 ho30 hb hg_ hnew_; clear hg_ hnew_; (first | rw [← Ny256.out] at ho30 | (simp only [Int.reduceToNat] at ho30; rw [← Ny256.out] at ho30)); have n0_ := Aside0.mk (Kd.S_elder' (by (with_reducible repeat (first | apply Kd.S_alloc | apply Kd.S_drewN | apply Kd.S_drew)); exact HO_4.out) (Kd.S_base ho30) hb); have n1_ := Aside0.mk (Kd.R_below (by (with_reducible repeat (first | apply Kd.R_alloc | apply Kd.R_drewN | apply Kd.R_drew)); exact HO_5.out) hb); have n2_ := Aside0.mk (Kd.S_lower (Kd.S_new' (Kd.S_new' ho30 (Kd.S_lt (by (with_reducible repeat (first | apply Kd.S_alloc | apply Kd.S_drewN | apply Kd.S_drew)); exact HO_4.out))) (Kd.R_lt (by (with_reducible repeat (first | apply Kd.R_alloc | apply Kd.R_drewN | apply Kd.R_drew)); exact HO_5.out))) (below_size (by repeat (first | (with_reducible first | exact HB.out | apply below_alloc | apply pw_below_drewN | apply below_drew1) | exact HB.out)))); have n3_ := Aside0.mk (below_step (by repeat (first | (with_reducible first | exact HB.out | apply below_alloc | apply pw_below_drewN | apply below_drew1) | exact HB.out)) hb); clear HO_4; clear HO_5; clear HB; have HO_4 := n0_; have HO_5 := n1_; have HO258 := n2_; have HB := n3_; clear n0_ n1_ n2_ n3_; clear hb ho30))
              go_ret2
              exact ⟨_, by first | rfl | (simp [errW_none, errW_some] <;> rfl) | (simp [*, errW_none, errW_some] <;> rfl), by (with_reducible repeat (first | apply Kd.S_alloc | apply Kd.S_drewN | apply Kd.S_drew)); exact Kd.S_mono HO258.out (fun _ hk => trivial), by repeat (first | (with_reducible first | exact HB.out | apply below_alloc | apply pw_below_drewN | apply below_drew1) | exact HB.out)⟩
          · replace c18 := Bool.eq_false_iff.mpr c18
            subst c18
            have H1 : (some ((([] : List (S59))), false)) = some (r1, r2) := by rw [if_neg (show ¬ (false = true) by decide)] at H; exact H
            clear H
            have H := H1
            clear H1
            obtain ⟨y259, hy259⟩ : ∃ y_ : List (S59), y_ = (([] : List (S59))) := ⟨_, rfl⟩
            replace H : (some (y259, false)) = some (r1, r2) := by first | (rw [hy259]; with_reducible exact H) | (have H2_ := (Option.bind_some _ _).symm.trans H; rw [hy259]; with_reducible exact H2_) | (have H2_ := (Option.bind_some _ _).symm.trans H; with_reducible exact H2_) | with_reducible exact H | (rw [hy259]; exact H) | exact H
            have Ny259 := Aside0.mk hy259
            clear hy259
            simp only [Option.some.injEq, Prod.mk.injEq] at H
            obtain ⟨rfl, rfl⟩ := H
            obtain ⟨Ao31, co31, eo31⟩ := Kd.R_slice HO_5.out
            subst eo31
            obtain ⟨Ao32, co32, eo32⟩ := Kd.S_slice HO_4.out
            subst eo32
            go_wp2_with (first | ((with_reducible refine gate_callee (f := 29) rfl ?_); refine goesL_ (some 28) rfl rfl Tryd.func29 (by kernel_rfl) rfl #[.slice Ao32 x4_1.length co32] rfl (by (try simp only [List.map_toArray, List.map_cons, List.map_nil]); first | done | rfl | (simp only [List.length_drop, List.length_take]; rfl)) ?_; (with_reducible refine (spec_SelectorOk.calls k1 _ _ x4_1 false _ ?side1 ?side2 A17.out).mono ?_); (case side1 => repeat (first | exact (Kd.S_reads' HO_4.out).2.2 | (with_reducible refine Kd.C_alloc ?_ _) | (with_reducible refine Kd.C_drewN ?_ _) | (with_reducible refine Kd.C_drew ?_))); (case side2 => exact (Kd.S_reads' HO_4.out).2.1); rintro e w33 ⟨rfl, hb⟩; refine ⟨_, rfl, ?_⟩; have n0_ := Aside0.mk (Kd.S_below (by (with_reducible repeat (first | apply Kd.S_alloc | apply Kd.S_drewN | apply Kd.S_drew)); exact HO_4.out) hb); have n1_ := Aside0.mk (Kd.R_below (by (with_reducible repeat (first | apply Kd.R_alloc | apply Kd.R_drewN | apply Kd.R_drew)); exact HO_5.out) hb); have n2_ := Aside0.mk (below_step (by repeat (first | (with_reducible first | exact HB.out | apply below_alloc | apply pw_below_drewN | apply below_drew1) | exact HB.out)) hb); clear HO_4; clear HO_5; clear HB; have HO_4 := n0_; have HO_5 := n1_; have HB := n2_; clear n0_ n1_ n2_; (try clear hb); (try clear hb2); (try clear hk); (try clear hi)) | ((with_reducible refine gate_dst (N := 36) rfl ?_); refine Kd.S_lit k59 _ 59 ?hg (N := 36) ?hd (xs := ([] : List (S59))) (inner := []) (ok := fun _ => True) (okp := fun _ => True) ?hr ?hp (fun _ hk => hk) trivial (Below.refl _ _) (Nat.le_refl _) (by simp) ?_; (case hd => rfl); (case hg => rfl); (case hr => first | (go_simp; done) | (go_simp; rfl)); (case hp => exact (Reps.none _ _)); intro v260 w34 ho35 hb hg_ hnew_; clear hg_ hnew_; (first | rw [← Ny259.out] at ho35 | (simp only [Int.reduceToNat] at ho35; rw [← Ny259.out] at ho35)); have n0_ := Aside0.mk (Kd.S_elder' (by (with_reducible repeat (first | apply Kd.S_alloc | apply Kd.S_drewN | apply Kd.S_drew)); exact HO_4.out) (Kd.S_base ho35) hb); have n1_ := Aside0.mk (Kd.R_below (by (with_reducible repeat (first | apply Kd.R_alloc | apply Kd.R_drewN | apply Kd.R_drew)); exact HO_5.out) hb); have n2_ := Aside0.mk (Kd.S_lower (Kd.S_new' (Kd.S_new' ho35 (Kd.S_lt (by (with_reducible repeat (first | apply Kd.S_alloc | apply Kd.S_drewN | apply Kd.S_drew)); exact HO_4.out))) (Kd.R_lt (by (with_reducible repeat (first | apply Kd.R_alloc | apply Kd.R_drewN | apply Kd.R_drew)); exact HO_5.out))) (below_size (by repeat (first | (with_reducible first | exact HB.out | apply below_alloc | apply pw_below_drewN | apply below_drew1) | exact HB.out)))); have n3_ := Aside0.mk (below_step (by repeat (first | (with_reducible first | exact HB.out | apply below_alloc | apply pw_below_drewN | apply below_drew1) | exact HB.out)) hb); clear HO_4; clear HO_5; clear HB; have HO_4 := n0_; have HO_5 := n1_; have HO261 := n2_; have HB := n3_; clear n0_ n1_ n2_ n3_; clear hb ho35))
            go_ret2
            exact ⟨_, by first | rfl | (simp [errW_none, errW_some] <;> rfl) | (simp [*, errW_none, errW_some] <;> rfl), by (with_reducible repeat (first | apply Kd.S_alloc | apply Kd.S_drewN | apply Kd.S_drew)); exact Kd.S_mono HO261.out (fun _ hk => trivial), by repeat (first | (with_reducible first | exact HB.out | apply below_alloc | apply pw_below_drewN | apply below_drew1) | exact HB.out)⟩

end Go.Proofs.YtpjpnppoejnafaaDoor.G

/- PParseSel -/
/-
  ParseSelector: the program's and the reference's come to one answer; what SelectorText wrote is read again.
-/
namespace Go.Proofs.YtpjpnppoejnafaaDoor.G
open Go.RowKit Go.Proofs.YtpjpnppoejnafaaDoorW.PrintWords Go.Proofs.YtpjpnppoejnafaaDoorW.PrintLast Go.Proofs.YtpjpnppoejnafaaDoorW.PrintMore
set_option linter.unusedVariables false
set_option linter.unusedSimpArgs false
theorem ext_mkb (p : List UInt8) (a b : Nat) : (mkb p).extract a b = mkb ((p.drop a).take (b - a)) := by
  apply ba_eq
  rw [ext_data, mkb_data, mkb_data]
theorem ext_to (p : List UInt8) (b : Nat) : (mkb p).extract 0 b = mkb (p.take b) := by rw [ext_mkb]; simp
theorem ext_from (p : List UInt8) (a : Nat) : (mkb p).extract a (mkb p).size = mkb (p.drop a) := by
  rw [ext_mkb, mkb_size, List.take_of_length_le (by rw [List.length_drop]; omega)]
/-! ### the library's -/
theorem cutf (sep p : List UInt8) (h : p.length < 4294967281) : strings_Cut.f (mkb p) (mkb sep) = some (if 0 ≤ Lib.index p sep then (mkb (cutA sep p), mkb (cutB sep p), true) else (mkb p, mkb [], false)) := by
  unfold strings_Cut.f
  rw [if_pos (by rw [mkb_size]; exact h), mkb_data, mkb_data, cut_ab]
  split <;> rfl
theorem trimSuf_f (p q : List UInt8) (h : p.length ≤ 1099511627776) (hq : q.length ≤ 1099511627776) : strings_TrimSuffix.f (mkb p) (mkb q) = some (mkb (Lib.trimSuffix p q)) := by
  unfold strings_TrimSuffix.f stringslite_TrimSuffix.f stringslite_HasSuffix.f Lib.trimSuffix Lib.hasSuffix
  rw [mkb_size, mkb_size]
  by_cases c : q.length ≤ p.length
  · rw [if_pos (by omega), w64 (by omega) (by omega), if_pos (by omega), if_pos (by omega)]
    have e : ((p.length : Int) - (q.length : Int)).toNat = p.length - q.length := by omega
    have hext : (mkb p).extract (p.length - q.length) p.length = mkb (p.drop (p.length - q.length)) := by
      have := ext_from p (p.length - q.length)
      rwa [mkb_size] at this
    rw [e, hext, Option.bind_some]
    by_cases hs : q.isSuffixOf p = true
    · rw [if_pos hs]
      obtain ⟨t, rfl⟩ := List.isSuffixOf_iff_suffix.1 hs
      have hd : (t ++ q).drop ((t ++ q).length - q.length) = q := by simp
      rw [hd, if_pos (by simp), if_pos (by omega), if_pos (by omega), ext_to, Option.bind_some]
    · rw [if_neg hs, if_neg ?_, Option.bind_some]
      intro hh
      apply hs
      have h2 : mkb (p.drop (p.length - q.length)) = mkb q := tl_eq.1 (by simpa using hh)
      have h3 : p.drop (p.length - q.length) = q := by
        have := congrArg (fun s : ByteArray => s.data.toList) h2
        simpa only [mkb_data] using this
      rw [List.isSuffixOf_iff_suffix, ← h3]
      exact List.drop_suffix _ _
  · rw [if_neg (by omega), Option.bind_some, if_neg (by simp), Option.bind_some, if_neg ?_]
    intro hs
    have := List.IsSuffix.length_le (List.isSuffixOf_iff_suffix.1 hs)
    omega
theorem parseTerm_f (p : List UInt8) (h : p.length ≤ 1048576) : impl_parseTerm.f (mkb p) = some ((readI p).f0, (readI p).f1, (readI p).f2) := by
  have hl : ∀ sep : List UInt8, (cutB sep p).length ≤ 1048576 := fun sep => by unfold cutB; rw [List.length_drop]; omega
  unfold impl_parseTerm.f readI
  rw [show (⟨#[33, 61]⟩ : ByteArray) = mkb [33, 61] from rfl, cutf _ _ (by omega), Option.bind_some]
  by_cases c1 : 0 ≤ Lib.index p [33, 61]
  · rw [if_pos c1, if_pos c1]; rfl
  · rw [if_neg c1, if_neg c1, if_neg (by simp)]
    rw [show (⟨#[61]⟩ : ByteArray) = mkb [61] from rfl, cutf _ _ (by omega), Option.bind_some]
    by_cases c2 : 0 ≤ Lib.index p [61]
    · rw [if_pos c2, if_pos c2]; rfl
    · rw [if_neg c2, if_neg c2, if_neg (by simp)]
      rw [show (⟨#[32, 105, 110, 32, 40]⟩ : ByteArray) = mkb sIn from rfl, cutf _ _ (by omega), Option.bind_some]
      by_cases c3 : 0 ≤ Lib.index p sIn
      · rw [if_pos c3, if_pos c3, if_pos rfl]
        have h3 := hl sIn
        simp only
        rw [show (⟨#[41]⟩ : ByteArray) = mkb [41] from rfl, trimSuf_f _ _ (by omega) (by simp), Option.bind_some]
        rw [split_f 32 _ (by
          rw [mkb_size]; unfold Lib.trimSuffix; split
          · rw [List.length_take]; omega
          · omega), Option.bind_some, mkb_data]
      · rw [if_neg c3, if_neg c3, if_neg (by simp)]
        unfold strings_CutPrefix.f
        rw [Option.bind_some, mkb_data]
        by_cases c4 : Lib.hasPrefix p [33] = true
        · rw [if_pos c4, if_pos c4]
          unfold Lib.trimPrefix
          rw [show (⟨#[33]⟩ : ByteArray).data.toList = [33] from rfl, if_pos c4]; rfl
        · rw [if_neg c4, if_neg c4]
/-! ### the reference's search -/
theorem l2Find_l0 (p sep : List UInt8) (hp : p.length ≤ 1048576) (hs : sep ≠ []) (hs2 : sep.length ≤ 1048576) : ∀ (d i : Nat), i + d = p.length + 1 → Lib.NoOcc p sep i → Ev (fun k => spec_l2Find.l0 k (mkb p) (mkb sep) i) (Lib.index p sep)
  | 0, i, hd, hno => by
    have hpos : 0 < sep.length := List.length_pos_iff.2 hs
    refine Ev.step (fun k => by rw [spec_l2Find.l0]) (ev_if_neg (by rw [mkb_size, mkb_size, w64 (by omega) (by omega)]; omega) (ev_some ?_))
    exact (Lib.index_past hs hno (by omega)).symm
  | d + 1, i, hd, hno => by
    have hpos : 0 < sep.length := List.length_pos_iff.2 hs
    refine Ev.step (fun k => by rw [spec_l2Find.l0]) ?_
    rw [mkb_size, mkb_size, w64 (by omega) (by omega)]
    by_cases c : (i : Int) + (sep.length : Int) ≤ (p.length : Int)
    · refine ev_if_pos c (ev_if_pos (by omega) (ev_if_pos (by omega) ?_))
      have e1 : ((i : Int) + (sep.length : Int)).toNat = i + sep.length := by omega
      rw [e1, Int.toNat_natCast, ext_mkb, show i + sep.length - i = sep.length by omega]
      have hocc : (mkb ((p.drop i).take sep.length)).toList = (mkb sep).toList ↔ Lib.occAt p sep i = true := by
        rw [tl_eq]
        unfold Lib.occAt
        rw [List.isPrefixOf_iff_prefix, List.prefix_iff_eq_take]
        constructor
        · intro h
          have := congrArg (fun s : ByteArray => s.data.toList) h
          simp only [mkb_data] at this
          exact this.symm
        · intro h; rw [← h]
      by_cases co : Lib.occAt p sep i = true
      · exact ev_if_pos (hocc.2 co) (ev_some (Lib.index_hit hno (by omega) co).symm)
      · refine ev_if_neg (fun h => co (hocc.1 h)) ?_
        rw [w64 (by omega) (by omega)]
        have ih := l2Find_l0 p sep hp hs hs2 d (i + 1) (by omega) (fun j hj => by
          rcases Nat.lt_succ_iff_lt_or_eq.1 hj with h | rfl
          · exact hno j h
          · simpa using co)
        exact ih
    · exact ev_if_neg c (ev_some (Lib.index_past hs hno (by omega)).symm)
theorem l2Find_ev (p sep : List UInt8) (hp : p.length ≤ 1048576) (hs : sep ≠ []) (hs2 : sep.length ≤ 1048576) : Ev (fun k => spec_l2Find.f k (mkb p) (mkb sep)) (Lib.index p sep) := by
  unfold spec_l2Find.f
  exact l2Find_l0 p sep hp hs hs2 (p.length + 1) 0 (by omega) (fun j hj => absurd hj (Nat.not_lt_zero _))
theorem bt_mkb (p : List UInt8) (c : UInt8) {i : Nat} (h : i < p.length) : (bt (mkb p) (i : Int) = (c.toNat : Int)) ↔ p[i] = c := bt_byte (mkb p) c (i := i) (by rw [mkb_data]; exact h)
theorem l2Read_ev (p : List UInt8) (hp : p.length ≤ 1048576) : Ev (fun k => spec_l2Read.f k (mkb p)) ((readS p).f0, (readS p).f1, (readS p).f2) := by
  have room := fun sep : List UInt8 => Lib.index_room p sep
  have rest0 : ¬ (0 ≤ Lib.index p sIn ∧ p.getLast? = some 41) → Ev (fun k => spec_l2Read.j0 k (mkb p) (Lib.index p sIn) false) ((readS p).f0, (readS p).f1, (readS p).f2) := by
    intro hno
    refine Ev.step (fun k => by rw [spec_l2Read.j0]) (ev_if_neg (by simp) ?_)
    refine Ev.bind (l2Find_ev p [33, 61] hp (by simp) (by simp)) ?_
    have r1 := room [33, 61]
    simp only [List.length_cons, List.length_nil] at r1
    by_cases c1 : 0 ≤ Lib.index p [33, 61]
    · have r1 := r1 c1
      have e : readS p = ⟨2, mkb (cutA [33, 61] p), [mkb (cutB [33, 61] p)]⟩ := by unfold readS; rw [if_neg hno, if_pos c1]
      rw [e]
      refine ev_if_pos c1 (ev_if_pos c1 ?_)
      rw [mkb_size, w64 (by omega) (by omega)]
      refine ev_if_pos (by omega) (ev_if_pos (by omega) (ev_if_pos (by omega) (ev_some ?_)))
      have e2 : (Lib.index p [33, 61] + 2).toNat = (Lib.index p [33, 61]).toNat + 2 := by omega
      have h2 := ext_from p ((Lib.index p [33, 61]).toNat + 2)
      rw [mkb_size] at h2
      rw [e2, ext_to, h2]; rfl
    · refine ev_if_neg c1 (Ev.bind (l2Find_ev p [61] hp (by simp) (by simp)) ?_)
      have r2 := room [61]
      simp only [List.length_cons, List.length_nil] at r2
      by_cases c2 : 0 ≤ Lib.index p [61]
      · have r2 := r2 c2
        have e : readS p = ⟨1, mkb (cutA [61] p), [mkb (cutB [61] p)]⟩ := by unfold readS; rw [if_neg hno, if_neg c1, if_pos c2]
        rw [e]
        refine ev_if_pos c2 (ev_if_pos c2 ?_)
        rw [mkb_size, w64 (by omega) (by omega)]
        refine ev_if_pos (by omega) (ev_if_pos (by omega) (ev_if_pos (by omega) (ev_some ?_)))
        have e2 : (Lib.index p [61] + 1).toNat = (Lib.index p [61]).toNat + 1 := by omega
        have h2 := ext_from p ((Lib.index p [61]).toNat + 1)
        rw [mkb_size] at h2
        rw [e2, ext_to, h2]; rfl
      · have e : readS p = if p.head? = some 33 then ⟨5, mkb (p.drop 1), []⟩ else ⟨4, mkb p, []⟩ := by unfold readS; rw [if_neg hno, if_neg c1, if_neg c2]
        rw [e]
        refine ev_if_neg c2 ?_
        clear e room r1 r2 hno c1 c2
        cases p with
        | nil =>
          refine ev_if_neg (by rw [mkb_size]; simp) (ev_some ?_)
          rw [if_neg (by simp)]
        | cons b t =>
          refine ev_if_pos (by rw [mkb_size]; simp) (ev_if_pos (by rw [mkb_size]; simp) ?_)
          have hb := bt_mkb (b :: t) 33 (i := 0) (by simp)
          simp only [List.getElem_cons_zero] at hb
          by_cases c3 : b = 33
          · refine ev_if_pos (hb.2 c3) (ev_if_pos (by rw [mkb_size]; simp; omega) (ev_some ?_))
            rw [if_pos (by simp [c3]), ext_from]
          · refine ev_if_neg (fun h => c3 (hb.1 h)) (ev_some ?_)
            rw [if_neg (by simp [c3])]
  unfold spec_l2Read.f
  refine Ev.bind (l2Find_ev p sIn hp (by simp [sIn]) (by simp [sIn])) ?_
  by_cases c : 0 ≤ Lib.index p sIn
  · have r0 := room sIn c
    have hsz : sIn.length = 5 := rfl
    refine ev_if_pos c ?_
    rw [mkb_size, w64 (by omega) (by omega)]
    refine ev_if_pos (by omega) (ev_if_pos (by omega) ?_)
    have hb := bt_mkb p 41 (i := p.length - 1) (by omega)
    have hcast : ((p.length : Int) - 1) = ((p.length - 1 : Nat) : Int) := by omega
    have hlast : p.getLast? = some (p[p.length - 1]'(by omega)) := by
      rw [List.getLast?_eq_getElem?, List.getElem?_eq_getElem (by omega)]
    by_cases c4 : p[p.length - 1]'(by omega) = 41
    · have hbe : (bt (mkb p) ((p.length : Int) - 1) == 41) = true := by
        rw [hcast, beq_iff_eq]; exact hb.2 c4
      rw [hbe]
      have hgood : 0 ≤ Lib.index p sIn ∧ p.getLast? = some 41 := ⟨c, by rw [hlast, c4]⟩
      -- the sign behind the opening one is not the last one
      have hlt : Lib.index p sIn + 6 ≤ p.length := by
        refine Classical.byContradiction fun hn => ?_
        have he : Lib.index p sIn + 5 = p.length := by omega
        rcases Lib.index_spec p sIn with hm | ⟨i, h1, h2, h3, _⟩
        · omega
        · obtain ⟨t, ht⟩ := List.isPrefixOf_iff_prefix.1 h3
          have hlen := congrArg List.length ht
          rw [List.length_append, List.length_drop, hsz] at hlen
          have ht0 : t = [] := List.eq_nil_of_length_eq_zero (by omega)
          rw [ht0, List.append_nil] at ht
          have h40 : p[p.length - 1]'(by omega) = 40 := by
            have e : (p.drop i)[4]? = some 40 := by rw [← ht]; rfl
            rw [List.getElem?_drop, List.getElem?_eq_getElem (by omega)] at e
            have e2 : i + 4 = p.length - 1 := by omega
            simp only [e2] at e
            exact Option.some.inj e
          rw [h40] at c4
          exact absurd c4 (by decide)
      refine Ev.step (fun k => by rw [spec_l2Read.j0]) (ev_if_pos rfl (ev_if_pos c ?_))
      rw [mkb_size, w64 (by omega) (by omega), w64 (by omega) (by omega)]
      refine ev_if_pos (by omega) (ev_if_pos (by omega) (ev_if_pos (by omega) (ev_if_pos (by omega) ?_)))
      have e1 : (Lib.index p sIn + 5).toNat = (Lib.index p sIn).toNat + 5 := by omega
      have e2 : ((p.length : Int) - 1).toNat = p.length - 1 := by omega
      rw [e1, e2, ext_to, ext_mkb]
      have hsp := l1Split_ev (mkb ((p.drop ((Lib.index p sIn).toNat + 5)).take (p.length - 1 - ((Lib.index p sIn).toNat + 5)))) 32 (by
        rw [mkb_size, List.length_take]; omega)
      refine Ev.bind hsp (ev_some ?_)
      unfold readS
      rw [if_pos hgood, mkb_data]
      have e3 : (cutB sIn p).take ((cutB sIn p).length - 1) = (p.drop ((Lib.index p sIn).toNat + 5)).take (p.length - 1 - ((Lib.index p sIn).toNat + 5)) := by
        unfold cutB
        rw [List.length_drop, hsz]
        congr 1; omega
      rw [e3]; rfl
    · have hbe : (bt (mkb p) ((p.length : Int) - 1) == 41) = false := by
        rw [hcast, beq_eq_false_iff_ne]; exact fun h => c4 (hb.1 h)
      rw [hbe]
      exact rest0 (fun h => c4 (by
        have := h.2
        rw [hlast] at this
        exact Option.some.inj this))
  · exact ev_if_neg c (rest0 (fun h => c h.1))
/-! ### what is read is of a size -/
theorem spl_wf (c : UInt8) (l : List UInt8) (n : Nat) (h : l.length ≤ n) (hn : n ≤ 1048576) : wfStrs ((spl c l).map mkb) := by
  have h1 := spl_length c l
  refine ⟨by rw [List.length_map]; omega, fun x hx => ?_⟩
  obtain ⟨q, hq, rfl⟩ := List.mem_map.1 hx
  have := spl_part c l q hq
  rw [mkb_size]; omega
theorem one_wf (l : List UInt8) (h : l.length ≤ 1048576) : wfStrs [mkb l] := by
  refine ⟨by simp, fun x hx => ?_⟩
  rw [List.mem_singleton.1 hx, mkb_size]; omega
theorem nil_wf : wfStrs [] := ⟨by simp, by simp⟩
theorem cutA_len (sep p : List UInt8) : (cutA sep p).length ≤ p.length := by unfold cutA; rw [List.length_take]; omega
theorem cutB_len (sep p : List UInt8) : (cutB sep p).length ≤ p.length := by unfold cutB; rw [List.length_drop]; omega
theorem mkb_le (l : List UInt8) (n : Nat) (h : l.length ≤ n) (hn : n ≤ 1048576) : (mkb l).size ≤ 9223372036854775807 := by rw [mkb_size]; omega
theorem readI_wf (p : List UInt8) (hp : p.length ≤ 1048576) : wfITerm (readI p) := by
  unfold readI
  repeat' split
  · exact ⟨mkb_le _ _ (cutA_len _ _) hp, one_wf _ (Nat.le_trans (cutB_len _ _) hp)⟩
  · exact ⟨mkb_le _ _ (cutA_len _ _) hp, one_wf _ (Nat.le_trans (cutB_len _ _) hp)⟩
  · refine ⟨mkb_le _ _ (cutA_len _ _) hp, spl_wf 32 _ p.length ?_ hp⟩
    have := cutB_len sIn p
    unfold Lib.trimSuffix
    split
    · rw [List.length_take]; omega
    · exact this
  · exact ⟨mkb_le _ p.length (by rw [List.length_drop]; omega) hp, nil_wf⟩
  · exact ⟨mkb_le _ _ (Nat.le_refl _) hp, nil_wf⟩
theorem readS_wf (p : List UInt8) (hp : p.length ≤ 1048576) : wfITerm (readS p) := by
  unfold readS
  repeat' split
  · refine ⟨mkb_le _ _ (cutA_len _ _) hp, spl_wf 32 _ p.length ?_ hp⟩
    have := cutB_len sIn p
    rw [List.length_take]; omega
  · exact ⟨mkb_le _ _ (cutA_len _ _) hp, one_wf _ (Nat.le_trans (cutB_len _ _) hp)⟩
  · exact ⟨mkb_le _ _ (cutA_len _ _) hp, one_wf _ (Nat.le_trans (cutB_len _ _) hp)⟩
  · exact ⟨mkb_le _ p.length (by rw [List.length_drop]; omega) hp, nil_wf⟩
  · exact ⟨mkb_le _ _ (Nat.le_refl _) hp, nil_wf⟩
theorem wf_read (f : List UInt8 → ITerm) (hf : ∀ p, p.length ≤ 1048576 → wfITerm (f p)) {s : ByteArray} (hs : s.size ≤ 1048576) : wfITerms ((spl 44 s.data.toList).map f) := by
  refine ⟨by rw [List.length_map]; have := parts_len hs; omega, fun x hx => ?_⟩
  obtain ⟨p, hp, rfl⟩ := List.mem_map.1 hx
  exact hf p (part_len hs hp)
/-! ### whole -/
open Classical in
noncomputable def parseQ (s : ByteArray) : List ITerm × Bool := if s.data.toList = [] then ([], true) else if selTxt ((spl 44 s.data.toList).map readI) = s then ((spl 44 s.data.toList).map readI, true) else ([], false)
theorem implSel_l0 (s : ByteArray) (hs : s.size ≤ 1048576) (hne : s.data.toList ≠ []) : ∀ (d i : Nat), i + d = (spl 44 s.data.toList).length →
    Ev (fun k => impl_ParseSelector.l0 k s (((spl 44 s.data.toList).take i).map readI) ((spl 44 s.data.toList).map mkb) ((spl 44 s.data.toList).length : Int) i) (parseQ s)
  | 0, i, hd => by
    refine Ev.step (fun k => by rw [impl_ParseSelector.l0]) (ev_if_neg (by omega) ?_)
    rw [List.take_of_length_le (by omega)]
    refine Ev.bind (implSelectorText_ev _ (wf_read readI readI_wf hs)) ?_
    by_cases c : selTxt ((spl 44 s.data.toList).map readI) = s
    · refine ev_if_pos (tl_eq.2 c) (ev_some ?_)
      unfold parseQ
      rw [if_neg hne, if_pos c]
    · refine ev_if_neg (fun e => c (tl_eq.1 e)) (ev_some ?_)
      unfold parseQ
      rw [if_neg hne, if_neg c]
  | d + 1, i, hd => by
    have hi : i < (spl 44 s.data.toList).length := by omega
    have hl := parts_len hs
    have ih := implSel_l0 s hs hne d (i + 1) (by omega)
    rw [List.take_succ_eq_append_getElem hi, List.map_append] at ih
    refine Ev.step (fun k => by rw [impl_ParseSelector.l0]) (ev_if_pos (by omega) (ev_if_pos (by omega) (ev_if_pos (by rw [List.length_map]; omega) ?_)))
    rw [wsucc hi (by omega), rdS (by rw [List.length_map]; exact hi), List.getElem_map]
    have hp := part_len hs (List.getElem_mem hi)
    refine Ev.bind (ev_now (parseTerm_f _ hp)) (ev_if_pos (by rw [List.length_map, List.length_take]; omega) ?_)
    exact ih
theorem implSel_ev (s : ByteArray) (hs : s.size ≤ 1048576) : Ev (fun k => impl_ParseSelector.f k s) (parseQ s) := by
  unfold impl_ParseSelector.f
  refine Ev.bind (Ev.now _) ?_
  by_cases c : s.data.toList = []
  · refine ev_if_pos (tl_nil.2 c) (ev_some ?_)
    unfold parseQ
    rw [if_pos c]
  · refine ev_if_neg (fun e => c (tl_nil.1 e)) (Ev.bind (ev_now (split_f 44 s (by omega))) ?_)
    have := implSel_l0 s hs c _ 0 (Nat.zero_add _)
    rw [List.length_map]
    exact this
theorem specSel_l0 (s : ByteArray) (hs : s.size ≤ 1048576) (hne : s.data.toList ≠ []) : ∀ (d i : Nat), i + d = (spl 44 s.data.toList).length →
    Ev (fun k => spec_ParseSelector.l0 k s (((spl 44 s.data.toList).take i).map readS) ((spl 44 s.data.toList).map mkb) i) (parseQ s)
  | 0, i, hd => by
    refine Ev.step (fun k => by rw [spec_ParseSelector.l0]) (ev_if_neg (by rw [List.length_map]; omega) ?_)
    rw [List.take_of_length_le (by omega)]
    have hw := wf_read readS readS_wf hs
    have hsame := par_same hne
    rw [mkb_of] at hsame
    refine Ev.bind (specSelectorOk_ev _ hw) ?_
    by_cases c : selTxt ((spl 44 s.data.toList).map readI) = s
    · obtain ⟨h1, h2⟩ := hsame.2 c
      have hr : (spl 44 s.data.toList).map readS = (spl 44 s.data.toList).map readI := (sel_read hne (by rw [mkb_of]; exact c)).2
      refine ev_if_pos h1 (Ev.bind (specSelectorText_ev _ hw) (ev_if_pos (tl_eq.2 h2) (ev_some ?_)))
      unfold parseQ
      rw [if_neg hne, if_pos c, hr]
    · have hbad : parseQ s = ([], false) := by
        unfold parseQ
        rw [if_neg hne, if_neg c]
      rw [hbad]
      refine ev_if (fun h1 => Ev.bind (specSelectorText_ev _ hw) (ev_if_neg (fun h2 => c (hsame.1 ⟨h1, tl_eq.1 h2⟩)) (Ev.now _))) (fun _ => Ev.now _)
  | d + 1, i, hd => by
    have hi : i < (spl 44 s.data.toList).length := by omega
    have hl := parts_len hs
    have ih := specSel_l0 s hs hne d (i + 1) (by omega)
    rw [List.take_succ_eq_append_getElem hi, List.map_append] at ih
    refine Ev.step (fun k => by rw [spec_ParseSelector.l0]) (ev_if_pos (by rw [List.length_map]; omega) (ev_if_pos (by omega) ?_))
    rw [wsucc hi (by omega), rdS (by rw [List.length_map]; exact hi), List.getElem_map]
    have hp := part_len hs (List.getElem_mem hi)
    refine Ev.bind (l2Read_ev _ hp) (ev_if_pos (by rw [List.length_map, List.length_take]; omega) ?_)
    exact ih
theorem specSel_ev (s : ByteArray) (hs : s.size ≤ 1048576) : Ev (fun k => spec_ParseSelector.f k s) (parseQ s) := by
  unfold spec_ParseSelector.f
  refine Ev.bind (Ev.now _) ?_
  by_cases c : s.data.toList = []
  · refine ev_if_pos (tl_nil.2 c) (ev_some ?_)
    unfold parseQ
    rw [if_pos c]
  · refine ev_if_neg (fun e => c (tl_nil.1 e)) (Ev.bind (l1Split_ev s 44 (by omega)) ?_)
    exact specSel_l0 s hs c _ 0 (Nat.zero_add _)
/-- Few terms, few values each. -/
theorem parseQ_small (s : ByteArray) : (parseQ s).1 = [] ∨ selB (parseQ s).1 = true := by
  unfold parseQ
  split
  · exact .inl rfl
  · rename_i hne
    split
    · rename_i c
      exact .inr (sel_texts (ys := (spl 44 s.data.toList).map readI) hne (by rw [mkb_of]; exact c)).1
    · exact .inl rfl
end Go.Proofs.YtpjpnppoejnafaaDoor.G

/- GKTree -/
/-
  Trees in memory whose rows lie apart: with each goes the list of its blocks ('fp').
-/
namespace Go.Proofs.YtpjpnppoejnafaaDoor.G
open Go.RowKit Go.Proofs.YtpjpnppoejnafaaDoorW.PrintWords Go.Proofs.YtpjpnppoejnafaaDoorW.PrintLast Go.Proofs.YtpjpnppoejnafaaDoorW.PrintMore
set_option linter.unusedVariables false

/-- What an element's cells say, and which blocks it leads to. -/
structure Td (α : Type) where
  sz : Nat
  E : List Nat
  T : World → α → List Value → List Nat → Prop
  T_len : ∀ {w x cs fp}, T w x cs fp → cs.length = sz
  T_one : ∀ {w x cs fp}, T w x cs fp → ∀ u ∈ cs, u.oneCell' = true
  T_typed : ∀ {w : World} {x cs fp}, T w x cs fp → ∀ k ∈ fp, ∃ q, q ∈ E ∧ ∃ cells, w.heap[k]? = some (.cells cells q (0, 0))
  T_move : ∀ {w w1 : World} {x cs fp}, (∀ k ∈ fp, w1.heap[k]? = w.heap[k]?) → T w x cs fp → T w1 x cs fp
namespace Td
variable {α β : Type}
theorem T_lt (t : Td α) {w : World} {x : α} {cs : List Value} {fp : List Nat} (h : t.T w x cs fp) : ∀ k ∈ fp, k < w.heap.size := fun k hk => by
  obtain ⟨q, _, cells, hc⟩ := t.T_typed h k hk
  exact blk_lt hc
/-- The same as a kind: elements with their blocks. -/
def kd (t : Td α) : Kd (α × List Nat) where
  sz := t.sz
  E := t.E
  K := fun w x cs => t.T w x.1 cs x.2
  M := fun w base ok x cs => t.T w x.1 cs x.2 ∧ ∀ k ∈ x.2, ok k ∧ base ≤ k
  K_len := fun h => t.T_len h
  K_one := fun h => t.T_one h
  K_below := fun hb h => t.T_move (fun k hk => hb.block k (t.T_lt h k hk)) h
  K_of_M := fun h => h.1
  M_mono := fun hok h => ⟨h.1, fun k hk => ⟨hok k (h.2 k hk).1, (h.2 k hk).2⟩⟩
  M_bound := fun h => ⟨h.1, fun k hk => ⟨⟨(h.2 k hk).1, (h.2 k hk).2, t.T_lt h.1 k hk, t.T_typed h.1 k hk⟩, (h.2 k hk).2⟩⟩
  M_move := fun hm h => ⟨t.T_move (fun k hk => hm k (h.2 k hk).1) h.1, h.2⟩
  M_lower := fun hb h => ⟨h.1, fun k hk => ⟨(h.2 k hk).1, Nat.le_trans hb (h.2 k hk).2⟩⟩
/-- The blocks of a row: its own, then its elements'. -/
def foot (v : Value) (ps : List (α × List Nat)) : List Nat := v.ownBlock.toList ++ ps.flatMap (·.2)
/-- A row of one's own with what it leads to; its blocks are fp. -/
def Row (t : Td α) (e : Nat) (w : World) (v : Value) (xs : List α) (fp : List Nat) : Prop :=
  ∃ ps : List (α × List Nat), ps.map (·.1) = xs ∧ foot v ps = fp ∧ t.kd.R e w 0 (fun k => k ∈ fp) v ps
section
variable {t : Td α} {e : Nat} {w w1 : World} {v : Value} {xs : List α} {fp : List Nat}
theorem Row_move (h : t.Row e w v xs fp) (hm : ∀ k ∈ fp, w1.heap[k]? = w.heap[k]?) : t.Row e w1 v xs fp := by
  obtain ⟨ps, h1, h2, h3⟩ := h
  exact ⟨ps, h1, h2, Kd.R_move h3 hm⟩
theorem Row_typed (h : t.Row e w v xs fp) : ∀ k ∈ fp, ∃ q, q ∈ e :: t.E ∧ ∃ cells, w.heap[k]? = some (.cells cells q (0, 0)) := by
  obtain ⟨ps, h1, rfl, h3⟩ := h
  intro k hk
  rcases List.mem_append.1 hk with hk | hk
  · obtain ⟨cells, hc⟩ := Kd.R_typed h3 k (by simpa using hk)
    exact ⟨e, List.mem_cons_self, cells, hc⟩
  · obtain ⟨p, hp, hk⟩ := List.mem_flatMap.1 hk
    obtain ⟨_, inner, ho, hr⟩ := h3
    obtain ⟨j, hj, rfl⟩ := List.getElem_of_mem hp
    obtain ⟨q, hq, cells, hc⟩ := t.T_typed (hr.2 j _ (List.getElem?_eq_getElem hj)).1 k hk
    exact ⟨q, List.mem_cons_of_mem _ hq, cells, hc⟩
theorem Row_lt (h : t.Row e w v xs fp) : ∀ k ∈ fp, k < w.heap.size := fun k hk => by
  obtain ⟨q, _, cells, hc⟩ := Row_typed h k hk
  exact blk_lt hc
theorem Row_below (h : t.Row e w v xs fp) (hb : Below w.heap.size w w1) : t.Row e w1 v xs fp := Row_move h (fun k hk => hb.block k (Row_lt h k hk))
theorem Row_slice (h : t.Row e w v xs fp) : ∃ A c, v = .slice A xs.length c := by
  obtain ⟨ps, h1, _, h3⟩ := h
  obtain ⟨A, c, h4⟩ := Kd.R_slice h3
  exact ⟨A, c, by rw [h4, ← h1, List.length_map]⟩
/-- Read by any kind whose elements it holds. -/
theorem Row_C {d : Kd α} (hs : d.sz = t.sz) (hd : ∀ x cs f, t.T w x cs f → d.K w x cs) (h : t.Row e w v xs fp) : ∃ A c, v = .slice A xs.length c ∧ xs.length ≤ c ∧ d.C w A xs.length xs := by
  obtain ⟨ps, h1, _, h3⟩ := h
  obtain ⟨A, c, h4, h5, hn, hm, h6⟩ := Kd.R_reads h3
  have hl : xs.length = ps.length := by rw [← h1, List.length_map]
  refine ⟨A, c, by rw [h4, hl], by omega, rfl, by omega, fun hp => ?_⟩
  obtain ⟨ad, ha, hc⟩ := h6 (by omega)
  refine ⟨ad, ha, fun j p hj => ?_⟩
  rw [← h1, List.getElem?_map] at hj
  obtain ⟨q, hq, rfl⟩ := Option.map_eq_some_iff.1 hj
  obtain ⟨cs, hcl, hT, hcc⟩ := hc j q hq
  refine ⟨cs, hcl.trans hs.symm, hd _ _ _ hT, fun i u hu => ?_⟩
  have := hcc i u hu
  rw [hs]; exact this
end
/-! #### the kinds -/
def scalar (enc : α → Value) (h1 : ∀ x, (enc x).oneCell' = true) : Td α where
  sz := 1
  E := []
  T := fun _ x cs fp => cs = [enc x] ∧ fp = []
  T_len := fun h => by rw [h.1]; rfl
  T_one := fun h u hu => by
    rw [h.1] at hu
    rw [List.mem_singleton.1 hu]
    exact h1 _
  T_typed := fun h k hk => by rw [h.2] at hk; cases hk
  T_move := fun _ h => h
def int (k : IntKind) : Td Int := scalar (Value.int k) (fun _ => rfl)
def bool : Td Bool := scalar Value.bool (fun _ => rfl)
def string : Td ByteArray := scalar Value.string (fun _ => rfl)
def slice (e : Nat) (t : Td α) : Td (List α) where
  sz := 1
  E := e :: t.E
  T := fun w xs cs fp => ∃ v, cs = [v] ∧ t.Row e w v xs fp
  T_len := by
    rintro w x cs fp ⟨v, rfl, _⟩
    rfl
  T_one := by
    rintro w x cs fp ⟨v, rfl, h⟩ u hu
    obtain ⟨A, c, rfl⟩ := Row_slice h
    rw [List.mem_singleton.1 hu]
    rfl
  T_typed := by
    rintro w x cs fp ⟨v, rfl, h⟩
    exact Row_typed h
  T_move := by
    rintro w w1 x cs fp hm ⟨v, rfl, h⟩
    exact ⟨v, rfl, Row_move h hm⟩
def pair (a : Td α) (b : Td β) : Td (α × β) where
  sz := a.sz + b.sz
  E := a.E ++ b.E
  T := fun w x cs fp => ∃ c0 c1 f0 f1, cs = c0 ++ c1 ∧ fp = f0 ++ f1 ∧ a.T w x.1 c0 f0 ∧ b.T w x.2 c1 f1
  T_len := by
    rintro w x cs fp ⟨c0, c1, f0, f1, rfl, rfl, h0, h1⟩
    rw [List.length_append, a.T_len h0, b.T_len h1]
  T_one := by
    rintro w x cs fp ⟨c0, c1, f0, f1, rfl, rfl, h0, h1⟩ u hu
    rcases List.mem_append.1 hu with hu | hu
    · exact a.T_one h0 u hu
    · exact b.T_one h1 u hu
  T_typed := by
    rintro w x cs fp ⟨c0, c1, f0, f1, rfl, rfl, h0, h1⟩ k hk
    rcases List.mem_append.1 hk with hk | hk
    · obtain ⟨q, hq, hc⟩ := a.T_typed h0 k hk
      exact ⟨q, List.mem_append_left _ hq, hc⟩
    · obtain ⟨q, hq, hc⟩ := b.T_typed h1 k hk
      exact ⟨q, List.mem_append_right _ hq, hc⟩
  T_move := by
    rintro w w1 x cs fp hm ⟨c0, c1, f0, f1, rfl, rfl, h0, h1⟩
    exact ⟨c0, c1, f0, f1, rfl, rfl, a.T_move (fun k hk => hm k (List.mem_append_left _ hk)) h0, b.T_move (fun k hk => hm k (List.mem_append_right _ hk)) h1⟩
def iso (t : Td α) (f : β → α) : Td β where
  sz := t.sz
  E := t.E
  T := fun w x cs fp => t.T w (f x) cs fp
  T_len := t.T_len
  T_one := t.T_one
  T_typed := t.T_typed
  T_move := t.T_move
def bot (sz : Nat) (E : List Nat) : Td α where
  sz := sz
  E := E
  T := fun _ _ _ _ => False
  T_len := fun h => h.elim
  T_one := fun h => h.elim
  T_typed := fun h => h.elim
  T_move := fun _ h => h
/-- A type nested in itself: nested at most n deep. -/
def upto (F : Td α → Td α) (sz : Nat) (E : List Nat) : Nat → Td α
  | 0 => bot sz E
  | n + 1 => F (upto F sz E n)
/-! #### rows of scalars are the kit's -/
theorem Row_of_R {enc : α → Value} {h1 : ∀ x, (enc x).oneCell' = true} {e base : Nat} {ok : Nat → Prop} {w : World} {v : Value} {xs : List α} (h : (Kd.scalar enc h1).R e w base ok v xs) :
    (scalar enc h1).Row e w v xs v.ownBlock.toList := by
  have ho := Kd.own_of_R h
  have hf : foot v (xs.map fun x => (x, ([] : List Nat))) = v.ownBlock.toList := by
    unfold foot
    rw [List.flatMap_map]
    simp
  refine ⟨xs.map fun x => (x, []), by rw [List.map_map]; exact List.map_id _, hf, fun k hk => by simp [hk], encs enc xs, ?_, ?_⟩
  · rw [List.length_map]
    exact own_weaken ho (Nat.zero_le _)
  · have hr := Kd.reps_scalar (enc := enc) xs
    refine ⟨by rw [List.length_map]; exact hr.1, fun j p hj => ?_⟩
    rw [List.getElem?_map] at hj
    obtain ⟨x, hx, rfl⟩ := Option.map_eq_some_iff.1 hj
    exact ⟨⟨hr.2 j x hx, rfl⟩, fun k hk => by cases hk⟩
theorem R_of_Row {enc : α → Value} {h1 : ∀ x, (enc x).oneCell' = true} {e base : Nat} {w : World} {v : Value} {xs : List α} {fp : List Nat} (h : (scalar enc h1).Row e w v xs fp) (hb : ∀ k ∈ fp, base ≤ k) :
    (Kd.scalar enc h1).R e w base (fun k => k ∈ fp) v xs ∧ fp = v.ownBlock.toList := by
  obtain ⟨ps, h2, h3, h0, inner, ho, hr⟩ := h
  have hps : ps = xs.map fun x => (x, ([] : List Nat)) := by
    rw [← h2, List.map_map]
    apply List.ext_getElem (by simp)
    intro j hj hj'
    rw [List.getElem_map]
    have := (hr.2 j _ (List.getElem?_eq_getElem hj)).1.2
    exact Prod.ext rfl this
  subst hps
  have hf : fp = v.ownBlock.toList := by
    rw [← h3]
    unfold foot
    rw [List.flatMap_map]
    simp
  refine ⟨⟨h0, inner, ⟨by have := ho.1; rw [List.length_map] at this; exact this, ?_⟩, by have := hr.1; rw [List.length_map] at this; exact this, fun j p hj => ?_⟩, hf⟩
  · rcases ho.2 with ⟨rfl, hn⟩ | ⟨g, cap, cur, hv, _, hh, a1, a2, a3, a4⟩
    · exact .inl ⟨rfl, by rw [List.length_map] at hn; exact hn⟩
    · rw [List.length_map] at hv a1 a4
      exact .inr ⟨g, cap, cur, hv, hb g (h0 g (by rw [hv]; rfl)), hh, a1, a2, a3, a4⟩
  · exact (hr.2 j (p, []) (by rw [List.getElem?_map, hj]; rfl)).1.1
end Td
end Go.Proofs.YtpjpnppoejnafaaDoor.G

/- GKMark -/
/-
  A row whose elements' rows lie apart, one element at a time: a cell of it stored, its inner rows written.
-/
namespace Go.Proofs.YtpjpnppoejnafaaDoor.G
open Go.RowKit Go.Proofs.YtpjpnppoejnafaaDoorW.PrintWords Go.Proofs.YtpjpnppoejnafaaDoorW.PrintLast Go.Proofs.YtpjpnppoejnafaaDoorW.PrintMore
set_option linter.unusedVariables false
theorem flat_apart : ∀ (L : List (List Nat)), L.flatten.Nodup → ∀ i j (hi : i < L.length) (hj : j < L.length), i ≠ j → ∀ k, k ∈ L[i] → k ∉ L[j]
  | [], _, i, _, hi, _, _, _, _ => by simp at hi
  | l :: L, h, i, j, hi, hj, hne, k, hk => by
    rw [List.flatten_cons, List.nodup_append] at h
    obtain ⟨_, h2, h3⟩ := h
    have into : ∀ q (hq : q < L.length), k ∈ L[q] → k ∈ L.flatten := fun q hq hm => List.mem_flatten.2 ⟨_, List.getElem_mem hq, hm⟩
    match i, j with
    | 0, 0 => exact absurd rfl hne
    | 0, j + 1 =>
      intro hm
      exact h3 k hk k (into j (by simpa using hj) hm) rfl
    | i + 1, 0 =>
      intro hm
      exact h3 k hm k (into i (by simpa using hi) hk) rfl
    | i + 1, j + 1 => exact flat_apart L h2 i j (by simpa using hi) (by simpa using hj) (by omega) k hk
namespace Td
section
variable {α : Type} {t : Td α} {e : Nat} {w : World} {v : Value} {xs : List α} {fp : List Nat}
theorem flatMap_eq (ps : List (α × List Nat)) : ps.flatMap (·.2) = (ps.map (·.2)).flatten := by rw [List.flatMap_def]
/-- Element i: where it lies, what it leads to, and what may be done to it. -/
theorem Row_at (h : t.Row e w v xs fp) (hn : fp.Nodup) {i : Nat} (hi : i < xs.length) : ∃ (g cap : Nat) (cs : List Value) (f : List Nat), v = .slice (some ⟨g, 0, none⟩) xs.length cap ∧ xs.length ≤ cap ∧ t.T w xs[i] cs f ∧
    (∀ j u, cs[j]? = some u → w.cell? ⟨g, i * t.sz + j, none⟩ = some u) ∧ (∀ j, w.frozen? ⟨g, j, none⟩ = false) ∧ g ∈ fp ∧ g ∉ f ∧ f.Nodup ∧ (∀ k ∈ f, k ∈ fp) ∧ g < w.heap.size ∧
    (∀ (w' : World) (x' : α), t.T w' x' cs f → (∀ k ∈ fp, k ∉ f → w'.heap[k]? = w.heap[k]?) → t.Row e w' v (xs.set i x') fp) ∧
    (∀ (j : Nat) (u : Value) (x' : α), j < t.sz → t.T w x' (cs.take j ++ [u] ++ cs.drop (j + 1)) f → t.Row e (w.setCell ⟨g, i * t.sz + j, none⟩ u) v (xs.set i x') fp) := by
  obtain ⟨ps, rfl, hf, hR⟩ := h
  have hl : ps.length = (ps.map (·.1)).length := by rw [List.length_map]
  have hip : i < ps.length := by omega
  have hR0 := hR
  obtain ⟨h0, inner, ho, hr⟩ := hR
  have ho' := ho
  obtain ⟨ho1, ho2⟩ := ho
  rcases ho2 with ⟨_, hz⟩ | ⟨g, cap, cur, rfl, hb, hh, a1, a2, a3, a4⟩
  · omega
  have hfoot : fp = g :: (ps.map (·.2)).flatten := by rw [← hf, ← flatMap_eq]; rfl
  have hel := hr.2 i _ (List.getElem?_eq_getElem hip)
  obtain ⟨hT, hok⟩ := hel
  have hnd := hn
  rw [hfoot, List.nodup_cons] at hnd
  have hgf : g ∉ ps[i].2 := fun hg => hnd.1 (List.mem_flatten.2 ⟨_, List.mem_map.2 ⟨ps[i], List.getElem_mem hip, rfl⟩, hg⟩)
  have hseg : i * t.sz + t.sz ≤ inner.length := by rw [hr.1, ← Nat.succ_mul]; exact Nat.mul_le_mul_right _ hip
  have hcell : ∀ j u, ((inner.drop (i * t.sz)).take t.sz)[j]? = some u → w.cell? ⟨g, i * t.sz + j, none⟩ = some u := fun j u hu => by
    rw [List.getElem?_take] at hu
    split at hu
    · rw [List.getElem?_drop] at hu
      have := ho'.cells (g := g) (by simp [Value.ownBlock]) _ u hu
      rwa [add_plain] at this
    · cases hu
  have hfin : ∀ k ∈ ps[i].2, k ∈ fp := fun k hk => (hok k hk).1.1
  have hsubnd : ps[i].2.Nodup := by
    have h2 := hnd.2
    have hs : ps[i].2.Sublist (ps.map (·.2)).flatten := List.sublist_flatten_of_mem (List.mem_map.2 ⟨ps[i], List.getElem_mem hip, rfl⟩)
    exact hs.nodup h2
  have hmap2 : ∀ x' : α, (ps.set i (x', ps[i].2)).map (·.2) = ps.map (·.2) := fun x' => by
    rw [List.map_set]
    have : (ps.map (·.2)).set i ((ps.map (·.2))[i]'(by rw [List.length_map]; exact hip)) = ps.map (·.2) := List.set_getElem_self _
    rw [List.getElem_map] at this
    exact this
  have hmap1 : ∀ x' : α, (ps.set i (x', ps[i].2)).map (·.1) = (ps.map (·.1)).set i x' := fun x' => by rw [List.map_set]
  have hfoot' : ∀ x' : α, foot (.slice (some ⟨g, 0, none⟩) ps.length cap) (ps.set i (x', ps[i].2)) = fp := fun x' => by
    unfold foot
    rw [flatMap_eq, hmap2, hfoot]; rfl
  refine ⟨g, cap, (inner.drop (i * t.sz)).take t.sz, ps[i].2, by rw [List.length_map], by rw [List.length_map]; exact a1, by rw [List.getElem_map]; exact hT, hcell, fun j => blk_frozen hh j, by rw [hfoot]; exact List.mem_cons_self, hgf, hsubnd, hfin, blk_lt hh, ?_, ?_⟩
  · intro w' x' hT' hm
    refine ⟨ps.set i (x', ps[i].2), hmap1 x', hfoot' x', fun k hk => h0 k hk, inner, ?_, ?_⟩
    · rw [List.length_set]
      exact own_move ho' (fun k hk => by
        have : g = k := by simpa [Value.ownBlock] using hk
        subst this
        exact hm _ (by rw [hfoot]; exact List.mem_cons_self) hgf)
    · refine ⟨by rw [List.length_set]; exact hr.1, fun j p hj => ?_⟩
      by_cases hji : j = i
      · subst hji
        rw [List.getElem?_set_self hip] at hj
        cases hj
        exact ⟨hT', hok⟩
      · rw [List.getElem?_set_ne (by omega)] at hj
        obtain ⟨hjl, rfl⟩ := List.getElem?_eq_some_iff.1 hj
        obtain ⟨q1, q2⟩ := hr.2 j _ hj
        refine ⟨t.T_move (fun k hk => hm k (q2 k hk).1.1 ?_) q1, q2⟩
        have := flat_apart (ps.map (·.2)) hnd.2 j i (by rw [List.length_map]; exact hjl) (by rw [List.length_map]; exact hip) hji k
        rw [List.getElem_map, List.getElem_map] at this
        exact this hk
  · intro j u x' hj hT'
    have hcl : ((inner.drop (i * t.sz)).take t.sz).length = t.sz := by rw [List.length_take, List.length_drop]; omega
    have hM : t.kd.M w 0 (fun k => k ∈ ps[i].2) (x', ps[i].2) ((((inner.drop (i * t.sz)).take t.sz).take j) ++ [u] ++ ((inner.drop (i * t.sz)).take t.sz).drop (j + [u].length)) := ⟨hT', fun k hk => ⟨hk, Nat.zero_le _⟩⟩
    have hs := Kd.R_seg (d := t.kd) hR0 (i : Int) (by omega) (by omega) (c := (inner.drop (i * t.sz)).take t.sz) (seg := [u]) (j := j) hcl (fun j u hu => hcell j u hu) (by show j + 1 ≤ t.sz; omega) hM (fun k hk => ⟨hfin k hk, fun e => hgf (e ▸ hk)⟩)
    exact ⟨ps.set i (x', ps[i].2), hmap1 x', hfoot' x', hs.1⟩
end
end Td
/-- The elements marked one behind the other. -/
def mkL {α : Type} (f : α → Int → α × Int) : List α → Int → List α × Int
  | [], k => ([], k)
  | x :: xs, k => ((f x k).1 :: (mkL f xs (f x k).2).1, (mkL f xs (f x k).2).2)
theorem mkL_len {α : Type} (f : α → Int → α × Int) : ∀ (xs : List α) (k : Int), (mkL f xs k).1.length = xs.length
  | [], _ => rfl
  | x :: xs, k => by rw [mkL]; simp [mkL_len f xs]
theorem mkL_snoc {α : Type} (f : α → Int → α × Int) : ∀ (xs : List α) (x : α) (k : Int), mkL f (xs ++ [x]) k = ((mkL f xs k).1 ++ [(f x (mkL f xs k).2).1], (f x (mkL f xs k).2).2)
  | [], x, k => rfl
  | y :: ys, x, k => by rw [List.cons_append, mkL, mkL_snoc f ys x, mkL]; rfl
end Go.Proofs.YtpjpnppoejnafaaDoor.G

/- GKApart -/
/-
  Rows that the print tells as apart ('S') are trees in the sense of KTree.
-/
namespace Go.Proofs.YtpjpnppoejnafaaDoor.G
open Go.RowKit Go.Proofs.YtpjpnppoejnafaaDoorW.PrintWords Go.Proofs.YtpjpnppoejnafaaDoorW.PrintLast Go.Proofs.YtpjpnppoejnafaaDoorW.PrintMore
set_option linter.unusedVariables false
namespace Td
theorem pick_zip {α β : Type} {P : Nat → α → β → Prop} : ∀ (xs : List α) (j0 : Nat), (∀ j (h : j < xs.length), ∃ b, P (j0 + j) xs[j] b) → ∃ ys : List β, ys.length = xs.length ∧ ∀ j (h : j < xs.length) (h' : j < ys.length), P (j0 + j) xs[j] ys[j]
  | [], j0, _ => ⟨[], rfl, fun j h => by simp at h⟩
  | x :: xs, j0, h => by
    obtain ⟨b, hb⟩ := h 0 (by simp)
    obtain ⟨ys, hl, hy⟩ := pick_zip (P := P) xs (j0 + 1) (fun j hj => by
      obtain ⟨b, hb⟩ := h (j + 1) (by simpa using hj)
      exact ⟨b, by rw [Nat.add_assoc, Nat.add_comm 1 j]; simpa using hb⟩)
    refine ⟨b :: ys, by simp [hl], fun j hj hj' => ?_⟩
    cases j with
    | zero => simpa using hb
    | succ j =>
      have := hy j (by simpa using hj) (by simpa using hj')
      rw [Nat.add_assoc, Nat.add_comm 1 j] at this
      simpa using this
theorem nodup_flat {L : List (List Nat)} (f : Nat → Nat) (h1 : ∀ l ∈ L, l.Nodup) (h2 : ∀ j (h : j < L.length), ∀ k ∈ L[j], f k = j) : L.flatten.Nodup := by
  unfold List.Nodup
  rw [List.pairwise_flatten]
  refine ⟨h1, List.pairwise_iff_getElem.2 (fun i j hi hj hij x hx y hy e => ?_)⟩
  have a := h2 i hi x hx
  have b := h2 j hj y hy
  subst e
  omega
/-- A row told as apart: its blocks, each once. -/
theorem Row_of_S {α : Type} {t : Td α} {d : Kd α} {e base : Nat} {w : World} {ok : Nat → Prop} {v : Value} {xs : List α} (hsz : d.sz = t.sz)
    (hM : ∀ (base : Nat) (ok : Nat → Prop) (x : α) (cs : List Value), d.M w base ok x cs → ∃ f, t.T w x cs f ∧ f.Nodup ∧ ∀ k ∈ f, ok k ∧ base ≤ k)
    (h : Kd.S d e w base ok v xs) : ∃ fp, t.Row e w v xs fp ∧ fp.Nodup ∧ ∀ k ∈ fp, ok k ∧ base ≤ k := by
  obtain ⟨f, h⟩ := h
  obtain ⟨h0, inner, ho, hr⟩ := h
  have hz : (Kd.tag f d).sz = t.sz := hsz
  rw [List.length_zipIdx, hz] at ho
  have hr2 := hr.2
  rw [hz] at hr2
  obtain ⟨fs, hfl, hfs⟩ := pick_zip (P := fun j x g => t.T w x ((inner.drop (j * t.sz)).take t.sz) g ∧ g.Nodup ∧ ∀ k ∈ g, ((ok k ∧ some k ≠ v.ownBlock) ∧ f k = j) ∧ base ≤ k) xs 0 (fun j hj => by
    have hM1 := hr2 j (xs[j], j) (Kd.zip_at (List.getElem?_eq_getElem hj))
    obtain ⟨g, hT, hn, hk⟩ := hM base _ xs[j] _ hM1
    rw [Nat.zero_add]
    exact ⟨g, hT, hn, hk⟩)
  simp only [Nat.zero_add] at hfs
  have hlen : (xs.zip fs).length = xs.length := by rw [List.length_zip, hfl, Nat.min_self]
  have hown : ∀ k, v.ownBlock = some k → base ≤ k := fun k hk => own_base ho k hk
  have hfoot : foot v (xs.zip fs) = v.ownBlock.toList ++ fs.flatten := by
    unfold foot
    rw [flatMap_eq, List.map_snd_zip (by omega)]
  have hin : ∀ j (h : j < fs.length) k, k ∈ fs[j] → ((ok k ∧ some k ≠ v.ownBlock) ∧ f k = j) ∧ base ≤ k := fun j h k hk => (hfs j (by omega) h).2.2 k hk
  refine ⟨v.ownBlock.toList ++ fs.flatten, ⟨xs.zip fs, List.map_fst_zip (by omega), hfoot, fun k hk => ?_, inner, ?_, ?_⟩, ?_, ?_⟩
  · exact List.mem_append_left _ (by rw [hk]; simp)
  · rw [hlen]; exact own_weaken ho (Nat.zero_le _)
  · refine ⟨by rw [hlen]; have := hr.1; rw [List.length_zipIdx, hz] at this; exact this, fun j p hj => ?_⟩
    have hjl : j < (xs.zip fs).length := (List.getElem?_eq_some_iff.1 hj).1
    obtain ⟨_, rfl⟩ := List.getElem?_eq_some_iff.1 hj
    have hjx : j < xs.length := by omega
    have hjf : j < fs.length := by omega
    rw [List.getElem_zip]
    obtain ⟨q1, q2, q3⟩ := hfs j hjx hjf
    refine ⟨q1, fun k hk => ⟨⟨List.mem_append_right _ (List.mem_flatten.2 ⟨_, List.getElem_mem hjf, hk⟩), ?_⟩, Nat.zero_le _⟩⟩
    exact (q3 k hk).1.1.2
  · rw [List.nodup_append]
    refine ⟨by cases v.ownBlock <;> simp, nodup_flat f (fun l hl => ?_) (fun j hj k hk => (hin j hj k hk).1.2), fun a ha b hb hab => ?_⟩
    · obtain ⟨j, hj, rfl⟩ := List.getElem_of_mem hl
      exact (hfs j (by omega) hj).2.1
    · obtain ⟨l, hl, hk⟩ := List.mem_flatten.1 hb
      obtain ⟨j, hj, rfl⟩ := List.getElem_of_mem hl
      subst hab
      exact (hin j hj a hk).1.1.2 (by simpa using (by simpa using ha : v.ownBlock = some a).symm)
  · intro k hk
    rcases List.mem_append.1 hk with hk | hk
    · have : v.ownBlock = some k := by simpa using hk
      exact ⟨h0 k this, hown k this⟩
    · obtain ⟨l, hl, hk⟩ := List.mem_flatten.1 hk
      obtain ⟨j, hj, rfl⟩ := List.getElem_of_mem hl
      have := hin j hj k hk
      exact ⟨this.1.1.1, this.2⟩
end Td
end Go.Proofs.YtpjpnppoejnafaaDoor.G

/- G44 -/
-- Laid by wip/g/gprint.py out of the translation, by the kit's print program. Lean checks it.
namespace Go.Proofs.YtpjpnppoejnafaaDoor.G
open Go.RowKit Go.Proofs.YtpjpnppoejnafaaDoorW.PrintWords Go.Proofs.YtpjpnppoejnafaaDoorW.PrintLast Go.Proofs.YtpjpnppoejnafaaDoorW.PrintMore
attribute [local go_sem] max2_int min2_int max_two min_two max_three min_three max_four min_four   -- for this text's walks alone
set_option linter.unusedVariables false
set_option linter.unusedSimpArgs false

/-! ### laws_markStringS: function 44 -/
def laws_markStringS.l0 : Nat → List ByteArray → Int → Int → Option (Int × List ByteArray)
  | 0, _, _, _ => none
  | k + 1, x0, x1, x5 => if x5 < (x0.length : Int) then ((laws_markText.f k x1).bind fun t349 => (if 0 ≤ x5 then (laws_markStringS.l0 k (x0.set (x5 : Int).toNat t349) (wrap64 (x1 + 1)) (wrap64 (x5 + 1))) else (none))) else (some (x1, x0))
def laws_markStringS.f (k : Nat) (l0 : List ByteArray) (a1 : Int) : Option (Int × List ByteArray) := laws_markStringS.l0 k l0 a1 0
set_option maxHeartbeats 8000000 in
set_option maxRecDepth 100000 in
theorem laws_markStringS.calls (k : Nat) (P0_ : Nat → Prop) (u9000_ : Value) (l0 : List ByteArray) (a1 : Int) (r1 : Int) (r2 : List ByteArray) (w0 w : World) (hB : Below w0.heap.size w0 w) (ho0 : Kd.R Kd.string 9 w w0.heap.size P0_ u9000_ l0) (h : laws_markStringS.f k l0 a1 = some (r1, r2)) :
    Calls Tryd.prog 44 #[u9000_, .int .i64 a1] w fun e w' => e = .returned (.int .i64 r1) ∧ Kd.R Kd.string 9 w' w0.heap.size (fun k_ => (P0_ k_ ∨ w.heap.size ≤ k_)) u9000_ r2 ∧ Below w0.heap.size w0 w' ∧ Kept w w' (fun k_ => P0_ k_) := by
  have HO0 := Aside0.mk (show Kd.R Kd.string 9 w w0.heap.size (fun k_ => (P0_ k_ ∨ w.heap.size ≤ k_)) u9000_ l0 from Kd.R_mono ho0 (fun k_ hk => (.inl hk)))
  have HK := Aside0.mk (Kept.refl w (fun k_ => P0_ k_))
  have HW0 := Aside0.mk hB.size
  have HB := Aside0.mk hB
  clear hB
  have H : (laws_markStringS.l0 k l0 a1 0) = some (r1, r2) := h
  clear h
  have H' := Aside0.mk H
  clear H
  go_enter Tryd.func44, Tryd.ntmps44
  go_wp2
  go_loopg [1, 5] k (fun kq v1 v5 w' => ∃ (x0_1 : List ByteArray) (x1_1 : Int) (x5_1 : Int), v1 = .int .i64 x1_1 ∧ v5 = .int .i64 x5_1 ∧ Aside0 (laws_markStringS.l0 kq x0_1 x1_1 x5_1 = some (r1, r2)) ∧ Aside0 (kq ≤ k) ∧ Aside0 (Kd.R Kd.string 9 w' w0.heap.size (fun k_ => (P0_ k_ ∨ w.heap.size ≤ k_)) u9000_ x0_1) ∧ Aside0 (Kept w w' (fun k_ => P0_ k_)) ∧ Aside0 (Below w0.heap.size w0 w'))
  case atStart => exact ⟨(l0), (a1), (0), (by first | rfl | (simp; done) | (simp [*]; done)), (by first | rfl | (simp; done) | (simp [*]; done)), H', ⟨Nat.le_refl _⟩, ⟨by (with_reducible repeat (first | apply Kd.R_alloc | apply Kd.R_drewN | apply Kd.R_drew)); exact HO0.out⟩, ⟨by repeat (first | (with_reducible first | exact HK.out | apply Kept.alloc | apply Kept.drewN | apply Kept.drew) | exact HK.out)⟩, ⟨by repeat (first | (with_reducible first | exact HB.out | apply below_alloc | apply pw_below_drewN | apply below_drew1) | exact HB.out)⟩⟩
  case round =>
    clear H'
    try clear p2
    obtain ⟨x0_1, x1_1, x5_1, rfl, rfl, HA, HK1, HO_0, HK, HB⟩ := hrel
    cases gk with
    | zero => exact absurd HA.out (by simp [laws_markStringS.l0])
    | succ k1 =>
      have H := HA.out
      clear HA
      simp only [laws_markStringS.l0] at H
      by_cases c3 : x5_1 < (x0_1.length : Int)
      · rw [if_pos c3] at H
        have c3b0 : decide (x5_1 < (x0_1.length : Int)) = true := decide_eq_true c3
        clear c3
        replace H := Option.bind_eq_some_iff.mp H
        obtain ⟨t349, A40, H⟩ := H
        replace H : (if 0 ≤ x5_1 then (laws_markStringS.l0 k1 (x0_1.set (x5_1 : Int).toNat t349) (wrap64 (x1_1 + 1)) (wrap64 (x5_1 + 1))) else (none)) = some (r1, r2) := H
        have A4 := Aside0.mk A40
        clear A40
        by_cases c5 : 0 ≤ x5_1
        · rw [if_pos c5] at H
          have c5b0 : decide (0 ≤ x5_1) = true := decide_eq_true c5
          clear c5
          obtain ⟨y350, hy350⟩ : ∃ y_ : List ByteArray, y_ = (x0_1.set (x5_1 : Int).toNat t349) := ⟨_, rfl⟩
          replace H : (laws_markStringS.l0 k1 y350 (wrap64 (x1_1 + 1)) (wrap64 (x5_1 + 1))) = some (r1, r2) := by first | (rw [hy350]; with_reducible exact H) | (have H2_ := (Option.bind_some _ _).symm.trans H; rw [hy350]; with_reducible exact H2_) | (have H2_ := (Option.bind_some _ _).symm.trans H; with_reducible exact H2_) | with_reducible exact H | (rw [hy350]; exact H) | exact H
          have Ny350 := Aside0.mk hy350
          clear hy350
          have H' := Aside0.mk H
          clear H
          obtain ⟨Ao7, co7, eo7⟩ := Kd.R_slice HO_0.out
          subst eo7
          go_wp2_with (first | ((with_reducible refine gate_callee (f := 39) rfl ?_); refine goesL_ (some 15) rfl rfl Tryd.func39 (by kernel_rfl) rfl #[.int .i64 x1_1] rfl (by (try simp only [List.map_toArray, List.map_cons, List.map_nil]); first | done | rfl | (simp only [List.length_drop, List.length_take]; rfl)) ?_; (with_reducible refine (laws_markText.calls k1 x1_1 t349 _ A4.out).mono ?_); rintro e w8 ⟨rfl, hb⟩; refine ⟨_, rfl, ?_⟩; have n0_ := Aside0.mk (Kd.R_below (by (with_reducible repeat (first | apply Kd.R_alloc | apply Kd.R_drewN | apply Kd.R_drew)); exact HO_0.out) hb); have n1_ := Aside0.mk (Kept.below (S := (fun k_ => P0_ k_)) (by repeat (first | (with_reducible first | exact HK.out | apply Kept.alloc | apply Kept.drewN | apply Kept.drew) | exact HK.out)) hb); have n2_ := Aside0.mk (below_step (by repeat (first | (with_reducible first | exact HB.out | apply below_alloc | apply pw_below_drewN | apply below_drew1) | exact HB.out)) hb); clear HO_0; clear HK; clear HB; have HO_0 := n0_; have HK := n1_; have HB := n2_; clear n0_ n1_ n2_; (try clear hb); (try clear hb2); (try clear hk); (try clear hi); have p6 : 0 ≤ (x5_1 : Int) := of_decide_eq_true (by first | (with_reducible assumption) | assumption); have q6 : (x5_1 : Int) < ((x0_1.length : Int) : Int) := of_decide_eq_true (by first | (with_reducible assumption) | assumption); obtain ⟨go6, co6, eo6, gb6, gl6, cl6, HG6⟩ := Kd.R_form HO_0.out (by omega); (first | cases eo6 | (injection eo6 with ea_ en_ ec_; (first | subst ea_ | (injection ea_ with ea_; subst ea_)); subst ec_; clear en_)); have GB6 := Aside0.mk gb6; have GG6 := Aside0.mk HG6; clear gb6 gl6 HG6; have HMgo6 := Aside0.mk (show (P0_ go6 ∨ w.heap.size ≤ go6) from (HO_0.out.1 _ rfl)); obtain ⟨hx6_0, hf6_0⟩ := Kd.R_celln (⟨#[]⟩ : ByteArray) HO_0.out (x5_1 : Int) p6 q6; replace p6 := eq_true p6; replace q6 := eq_true q6; obtain ⟨hy9_, hz9_⟩ := Kd.R_celln (⟨#[]⟩ : ByteArray) HO_0.out (x5_1 : Int) (of_decide_eq_true (by first | (with_reducible assumption) | assumption)) (of_decide_eq_true (by first | (with_reducible assumption) | assumption)); have HP9 := Kd.R_putg HO_0.out (x5_1 : Int) t349) | ((with_reducible refine gate_store (t := 9) (p := 16) rfl ?_); refine store_event (t := 9) (p := 16) (v := ?vo_w10) (w1 := (w8.setCell ⟨go6, (x5_1 : Int).toNat, none⟩ (.string t349))) ?hg ?ho ?hn ?hr ?_; (case ho => rfl); (case hg => rfl); (case hn => rfl); (case hr => first | (go_simp; done) | (go_simp; rfl)); intro w10 hw; have hg : w8.grownBy w10 (some go6) := (by rw [hw]; exact HP9.2); have hp_ : Kd.R Kd.string 9 w10 w0.heap.size (fun k_ => (P0_ k_ ∨ w.heap.size ≤ k_)) (.slice (some ⟨go6, 0, none⟩) x0_1.length co7) y350 := (by rw [hw, Ny350.out]; exact HP9.1); clear HP9; have n0_ := Aside0.mk (hp_); have n1_ := Aside0.mk ((by rw [hw]; exact below_set (HB.out) GB6.out : Below w0.heap.size w0 w10)); have n2_ := Aside0.mk (Kept.of_grown (S := (fun k_ => P0_ k_)) hg (by repeat (first | (with_reducible first | exact HK.out | apply Kept.alloc | apply Kept.drewN | apply Kept.drew) | exact HK.out)) (fun k_ e_ => (HO_0.out.1 k_ e_))); clear HO_0; clear HB; clear HK; have HO_0 := n0_; have HB := n1_; have HK := n2_; clear n0_ n1_ n2_; clear hg hw hp_))
          go_roundg k1
          case measure => have := HK1.out; omega
          case rel => exact ⟨(y350), (wrap64 (x1_1 + 1)), (wrap64 (x5_1 + 1)), (by first | rfl | (simp; done) | (simp [*]; done)), (by first | rfl | (simp; done) | (simp [*]; done)), H', ⟨by have := HK1.out; omega⟩, ⟨by (with_reducible repeat (first | apply Kd.R_alloc | apply Kd.R_drewN | apply Kd.R_drew)); exact HO_0.out⟩, ⟨by repeat (first | (with_reducible first | exact HK.out | apply Kept.alloc | apply Kept.drewN | apply Kept.drew) | exact HK.out)⟩, ⟨by repeat (first | (with_reducible first | exact HB.out | apply below_alloc | apply pw_below_drewN | apply below_drew1) | exact HB.out)⟩⟩
        · rw [if_neg c5] at H
          exact absurd H (by simp)
      · rw [if_neg c3] at H
        have c3b0 : decide (x5_1 < (x0_1.length : Int)) = false := decide_eq_false c3
        clear c3
        simp only [Option.some.injEq, Prod.mk.injEq] at H
        obtain ⟨rfl, rfl⟩ := H
        obtain ⟨Ao11, co11, eo11⟩ := Kd.R_slice HO_0.out
        subst eo11
        go_wp2
        go_ret
        exact ⟨by first | rfl | (simp [errW_none, errW_some] <;> rfl) | (simp [*, errW_none, errW_some] <;> rfl), by (with_reducible repeat (first | apply Kd.R_alloc | apply Kd.R_drewN | apply Kd.R_drew)); exact HO_0.out, by repeat (first | (with_reducible first | exact HB.out | apply below_alloc | apply pw_below_drewN | apply below_drew1) | exact HB.out), by repeat (first | (with_reducible first | exact HK.out | apply Kept.alloc | apply Kept.drewN | apply Kept.drew) | exact HK.out)⟩

end Go.Proofs.YtpjpnppoejnafaaDoor.G

/- GKMarkS -/
/-
  Marks: texts and rows whose elements lie apart are marked in place.
-/
namespace Go.Proofs.YtpjpnppoejnafaaDoor.G
open Go.RowKit Go.Proofs.YtpjpnppoejnafaaDoorW.PrintWords Go.Proofs.YtpjpnppoejnafaaDoorW.PrintLast Go.Proofs.YtpjpnppoejnafaaDoorW.PrintMore
set_option linter.unusedVariables false
set_option linter.unusedSimpArgs false
theorem set_mid {α : Type} (ps bs : List α) (x y : α) : (ps ++ x :: bs).set ps.length y = ps ++ y :: bs := by
  rw [List.set_append_right _ _ (Nat.le_refl _)]; simp
theorem set_at {α : Type} (ps bs : List α) (x y : α) {i : Nat} (h : ps.length = i) : (ps ++ x :: bs).set i y = ps ++ y :: bs := by
  subst h; exact set_mid ps bs x y
theorem get_mid {α : Type} (ps bs : List α) (x : α) (h : ps.length < (ps ++ x :: bs).length) : (ps ++ x :: bs)[ps.length] = x := by
  rw [List.getElem_append_right (Nat.le_refl _)]; simp
theorem mkL_app {α : Type} (f : α → Int → α × Int) : ∀ (xs ys : List α) (k : Int), mkL f (xs ++ ys) k = ((mkL f xs k).1 ++ (mkL f ys (mkL f xs k).2).1, (mkL f ys (mkL f xs k).2).2)
  | [], ys, k => rfl
  | x :: xs, ys, k => by rw [List.cons_append, mkL, mkL_app f xs ys, mkL]; rfl
theorem mkL_mono {α : Type} {f : α → Int → α × Int} (hf : ∀ x k, k ≤ (f x k).2) : ∀ (xs : List α) (k : Int), k ≤ (mkL f xs k).2
  | [], k => Int.le_refl _
  | x :: xs, k => Int.le_trans (hf x k) (mkL_mono hf xs _)
theorem mkL_take_le {α : Type} {f : α → Int → α × Int} (hf : ∀ x k, k ≤ (f x k).2) (xs : List α) (i : Nat) (k : Int) : (mkL f (xs.take i) k).2 ≤ (mkL f xs k).2 := by
  conv => rhs; rw [← List.take_append_drop i xs, mkL_app]
  exact mkL_mono hf _ _
/-! ### texts -/
noncomputable def mkS (_ : ByteArray) (k : Int) : ByteArray × Int := (mt k, k + 1)
theorem mkS_mono (x : ByteArray) (k : Int) : k ≤ (mkS x k).2 := by unfold mkS; show k ≤ k + 1; omega
theorem mkS_count : ∀ (xs : List ByteArray) (k : Int), (mkL mkS xs k).2 = k + xs.length
  | [], k => by simp [mkL]
  | x :: xs, k => by
    rw [mkL]
    show (mkL mkS xs (mkS x k).2).2 = _
    rw [mkS_count xs]
    show k + 1 + (xs.length : Int) = _
    rw [List.length_cons]; omega
theorem markStrs_l0 (xs : List ByteArray) (a : Int) (h0 : 0 ≤ a) (h1 : a + xs.length ≤ 1099511627776) : ∀ (d i : Nat), i + d = xs.length →
    Ev (fun k => laws_markStringS.l0 k ((mkL mkS (xs.take i) a).1 ++ xs.drop i) (mkL mkS (xs.take i) a).2 i) ((mkL mkS xs a).2, (mkL mkS xs a).1)
  | 0, i, hd => by
    have hlen : ((mkL mkS (xs.take i) a).1 ++ xs.drop i).length = xs.length := by rw [List.length_append, mkL_len, ← List.length_append, List.take_append_drop]
    refine Ev.step (fun k => by rw [laws_markStringS.l0]) (ev_if_neg (by rw [hlen]; omega) (ev_some ?_))
    rw [List.take_of_length_le (by omega), List.drop_of_length_le (by omega), List.append_nil]
  | d + 1, i, hd => by
    have hi : i < xs.length := by omega
    have hlen : ((mkL mkS (xs.take i) a).1 ++ xs.drop i).length = xs.length := by rw [List.length_append, mkL_len, ← List.length_append, List.take_append_drop]
    have hc := mkS_count (xs.take i) a
    have hlt : ((xs.take i).length : Int) = i := by rw [List.length_take]; omega
    have hlen2 := hlen
    have ih := markStrs_l0 xs a h0 h1 d (i + 1) (by omega)
    rw [List.take_succ_eq_append_getElem hi, mkL_snoc] at ih
    refine Ev.step (fun k => by rw [laws_markStringS.l0]) (ev_if_pos (by rw [hlen]; omega) ?_)
    refine Ev.bind (mt_ev _ (by omega) (by omega)) (ev_if_pos (by omega) ?_)
    rw [wsucc (n := xs.length) hi (by omega), w64 (by omega) (by omega)]
    refine Ev.congr (f := fun k => laws_markStringS.l0 k ((mkL mkS (xs.take i) a).1 ++ [(mkS xs[i] (mkL mkS (xs.take i) a).2).1] ++ xs.drop (i + 1)) (mkS xs[i] (mkL mkS (xs.take i) a).2).2 ((i + 1 : Nat) : Int)) (fun k => ?_) ih
    congr 1
    rw [List.drop_eq_getElem_cons hi, Int.toNat_natCast]
    have hl : (mkL mkS (xs.take i) a).1.length = i := by rw [mkL_len, List.length_take]; omega
    rw [set_at _ _ _ _ hl]
    simp [mkS]
theorem markStrs_ev (xs : List ByteArray) (a : Int) (h0 : 0 ≤ a) (h1 : a + xs.length ≤ 1099511627776) : Ev (fun k => laws_markStringS.f k xs a) ((mkL mkS xs a).2, (mkL mkS xs a).1) := by
  unfold laws_markStringS.f
  exact markStrs_l0 xs a h0 h1 xs.length 0 (by omega)
/-- markStringS in place. -/
theorem markStrs_calls (xs : List ByteArray) (v : Value) (fp : List Nat) (a : Int) (w0 w : World) (hB : Below w0.heap.size w0 w) (hr : Td.string.Row 9 w v xs fp) (hb : ∀ k ∈ fp, w0.heap.size ≤ k) (h0 : 0 ≤ a) (h1 : a + xs.length ≤ 1099511627776) :
    Calls Tryd.prog 44 #[v, .int .i64 a] w fun e w' => e = .returned (.int .i64 (mkL mkS xs a).2) ∧ Td.string.Row 9 w' v (mkL mkS xs a).1 fp ∧ Below w0.heap.size w0 w' ∧ Kept w w' (fun k => k ∈ fp) := by
  obtain ⟨K, hK⟩ := markStrs_ev xs a h0 h1
  obtain ⟨hR, hfp⟩ := Td.R_of_Row (enc := Value.string) (h1 := fun _ => rfl) (e := 9) (base := w0.heap.size) hr hb
  refine (laws_markStringS.calls K (fun k => k ∈ fp) v xs a _ _ w0 w hB hR (hK K (Nat.le_refl _))).mono ?_
  rintro e w' ⟨rfl, hR', hB', hk⟩
  refine ⟨rfl, ?_, hB', hk⟩
  have := Td.Row_of_R (enc := Value.string) (h1 := fun _ => rfl) hR'
  rwa [← hfp] at this
end Go.Proofs.YtpjpnppoejnafaaDoor.G
