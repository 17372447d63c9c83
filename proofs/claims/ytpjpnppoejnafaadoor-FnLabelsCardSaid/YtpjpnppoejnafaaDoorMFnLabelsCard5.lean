import Derived.Test.YtpjpnppoejnafaaDoorMFnLabelsCard1
import Derived.Laws.IdiomCopy
import Derived.Deep.AppendSrc
import Derived.Lib.AppendZeros
import Derived.Lib.Overlaps
import Derived.Laws.Externs
import Derived.Shelf.Spec.SlicesInsert
import Derived.Lib.Bytealg
import Derived.Test.YtpjpnppoejnafaaDoorShelf
import Derived.Test.YtpjpnppoejnafaaDoorMFnLabelsCard4
/- G52 -/
-- Laid by wip/g/gprint.py out of the translation, by the kit's print program. Lean checks it.
namespace Go.Proofs.YtpjpnppoejnafaaDoor.G
open Go.RowKit Go.Proofs.YtpjpnppoejnafaaDoorW.PrintWords Go.Proofs.YtpjpnppoejnafaaDoorW.PrintLast Go.Proofs.YtpjpnppoejnafaaDoorW.PrintMore
attribute [local go_sem] max2_int min2_int max_two min_two max_three min_three max_four min_four   -- for this text's walks alone
set_option linter.unusedVariables false
set_option linter.unusedSimpArgs false

/-! ### slices_Clone_simpl_Label_impl_Label: function 52 -/
def slices_Clone_simpl_Label_impl_Label.f (l0 : List (S42)) : Option (List (S42)) := if l0.length < 4398046511104 then some l0 else none
set_option maxHeartbeats 4000000 in
theorem slices_Clone_simpl_Label_impl_Label.calls (A0 : Option Addr) (c0 : Nat) (l0 : List (S42)) (r : List (S42)) (w : World) (hr0 : Kd.C k42 w A0 l0.length l0) (hc0 : l0.length ≤ c0) (h : slices_Clone_simpl_Label_impl_Label.f l0 = some r) :
    Calls Tryd.prog 52 #[.slice A0 l0.length c0] w fun e w' => ∃ v0_ : Value, e = .returned (v0_) ∧ Kd.R k42 42 w' w.heap.size (fun _ => True) v0_ r ∧ Below w.heap.size w w' := by
  unfold slices_Clone_simpl_Label_impl_Label.f at h
  by_cases hl : l0.length < 4398046511104
  · rw [if_pos hl] at h
    obtain rfl := Option.some.inj h
    clear h
    cases A0 with
    | none =>
      have h0 : l0 = [] := by
        rcases Nat.eq_zero_or_pos l0.length with h | h
        · exact List.eq_nil_of_length_eq_zero h
        · obtain ⟨ad, e, _⟩ := hr0.2.2 h
          cases e
      subst h0
      have hne := fun W => Lib.run_eql_slice_nil (P := Tryd.prog) W 22 42 none 0 c0 0 0 Tryd.underlying22
      simp only [List.length_nil]
      go_enter Tryd.func52, Tryd.ntmps52
      go_wp2
      go_ret
      exact ⟨_, rfl, Kd.R_nil _ _ _ _ _, Below.refl _ _⟩
    | some ad =>
      have hne := fun W => Lib.run_eql_slice_nil (P := Tryd.prog) W 22 42 (some ad) l0.length c0 0 0 Tryd.underlying22
      have HR0 := Aside0.mk hr0
      have HL := Aside0.mk hl
      have HB := Aside0.mk (Below.refl w.heap.size w)
      clear hr0 hl
      go_enter Tryd.func52, Tryd.ntmps52
      go_wp2_with (first | ((with_reducible refine gate_dst (N := 5) rfl ?_); refine Kd.R_lit k42 _ 42 ?hg (N := 5) ?hd (xs := ([] : List (S42))) (inner := []) (ok := fun _ => True) (okp := fun _ => True) ?hr ?hp (fun _ hk => hk) trivial (Below.refl _ _) (Nat.le_refl _) (by simp) ?_; (case hd => rfl); (case hg => rfl); (case hr => first | (go_simp; done) | (go_simp; rfl)); (case hp => exact (Reps.none _ _)); intro v189 w3 ho4 hb hg_ hnew_; clear hg_ hnew_; have n0_ := Aside0.mk (Kd.R_lower ho4 (below_size (by repeat (first | (with_reducible first | exact HB.out | apply below_alloc | apply pw_below_drewN | apply below_drew1) | exact HB.out)))); have n1_ := Aside0.mk (below_step (by repeat (first | (with_reducible first | exact HB.out | apply below_alloc | apply pw_below_drewN | apply below_drew1) | exact HB.out)) hb); clear HB; have HO190 := n0_; have HB := n1_; clear n0_ n1_; clear hb ho4) | ((with_reducible refine gate_builtin (b := .append) (xs := #[.tmp 5, .tmp 6]) rfl ?_); at_builtin; refine Kd.R_append_rows k42 (w0 := w) w.heap.size rfl (.tmp 5) (.tmp 6) 22 42 (.agg #[(.string ⟨#[]⟩), (.string ⟨#[]⟩)]) 32 rfl Tryd.underlying22 info42 rfl (by decide) (by omega) v189 ([] : List (S42)) l0 _ _ _ (fun _ => True) (fun _ => False) rfl rfl ?aO ?aR (fun _ _ h => h) (fun _ h => h.elim) ?aF ?aB ?aS ?aL ?_; (case aR => repeat (first | exact (Kd.C_below HR0.out HB.out) | (with_reducible refine Kd.C_alloc ?_ _) | (with_reducible refine Kd.C_drewN ?_ _) | (with_reducible refine Kd.C_drew ?_))); (case aB => exact (by repeat (first | (with_reducible first | exact HB.out | apply below_alloc | apply pw_below_drewN | apply below_drew1) | exact HB.out))); (case aF => exact (fun _ _ => trivial)); (case aO => exact (by (with_reducible repeat (first | apply Kd.R_alloc | apply Kd.R_drewN | apply Kd.R_drew)); exact HO190.out)); (case aS => exact (below_size (by repeat (first | (with_reducible first | exact HB.out | apply below_alloc | apply pw_below_drewN | apply below_drew1) | exact HB.out)))); (case aL => have := HL.out; simp only [List.length_nil]; omega); intro v192 w5 ho hb hg hat; rw [List.nil_append] at ho; have n0_ := Aside0.mk (hb); have n1_ := Aside0.mk (ho); clear HB; clear HO190; have HB := n0_; have HO193 := n1_; clear n0_ n1_; clear ho hb hg hat))
      go_ret
      exact ⟨_, rfl, by (with_reducible repeat (first | apply Kd.R_alloc | apply Kd.R_drewN | apply Kd.R_drew)); exact HO193.out, (by repeat (first | (with_reducible first | exact HB.out | apply below_alloc | apply pw_below_drewN | apply below_drew1) | exact HB.out))⟩
  · rw [if_neg hl] at h
    cases h

end Go.Proofs.YtpjpnppoejnafaaDoor.G

/- G89 -/
-- Laid by wip/g/gprint.py out of the translation, by the kit's print program. Lean checks it.
namespace Go.Proofs.YtpjpnppoejnafaaDoor.G
open Go.RowKit Go.Proofs.YtpjpnppoejnafaaDoorW.PrintWords Go.Proofs.YtpjpnppoejnafaaDoorW.PrintLast Go.Proofs.YtpjpnppoejnafaaDoorW.PrintMore
attribute [local go_sem] max2_int min2_int max_two min_two max_three min_three max_four min_four   -- for this text's walks alone
set_option linter.unusedVariables false
set_option linter.unusedSimpArgs false

/-! ### slices_IndexFunc_simpl_Label_impl_Label: function 89 -/
set_option maxRecDepth 100000 in
theorem slices_IndexFunc_simpl_Label_impl_Label.calls {α : Type} (d : Kd α) (hd : d.sz = 2) (kf : Nat) (hkf : ∀ (zs : Array Value) (W : World), (callFunc kf zs).run Tryd.prog W = .ok (.enter kf zs) W) (caps : Array Value) (p : α → Option Bool) (A0 : Option Addr) (c0 : Nat) (l0 : List α) (r : Int) (w : World) (hr0 : Kd.C d w A0 l0.length l0) (hc0 : l0.length ≤ c0)
    (hf : ∀ (x : α) (cs : List Value) (b : Bool) (W : World), x ∈ l0 → p x = some b → d.K W x cs → Below w.heap.size w W → Calls Tryd.prog kf (#[(.agg (cs).toArray)] ++ caps) W fun e w' => e = .returned (.bool b) ∧ Below W.heap.size W w') (h : idxO p l0 0 = some r) :
    Calls Tryd.prog 89 #[.slice A0 l0.length c0, .func (.func kf) #[] caps] w fun e w' => e = .returned (.int .i64 r) ∧ Below w.heap.size w w' := by
  have hm : l0.length ≤ 9223372036854775807 := hr0.2.1
  have HR := Lib.hid hr0
  have HF := Lib.hid hf
  have HH := Lib.hid h
  have HD := Lib.hid hd
  clear hr0 hf h hd
  go_enter Tryd.func89, Tryd.ntmps89
  go_wp2
  go_loopw [5, 8] (fun _ i wr => ∃ k : Nat, k ≤ l0.length ∧ i = .int .i64 k ∧ Hid (idxO p (l0.drop k) k = some r) ∧ Hid (Below w.heap.size w wr)) (fun _ i _ => l0.length - (intOf i).toNat)
  case atStart => exact ⟨0, by omega, rfl, HH, Below.refl _ _⟩
  case round =>
    obtain ⟨k, hk, rfl, HE, HB⟩ := hrel
    by_cases hlt : k < l0.length
    · obtain ⟨b, hp, hb1, hb2⟩ := idxO_step hlt HE.out
      have HP := Lib.hid hp
      have B1 := Lib.hid hb1
      have B2 := Lib.hid hb2
      clear hp hb1 hb2
      obtain ⟨ad, cs, rfl, hcs, hK, hcell⟩ := Kd.C_get HR.out l0[k] (k : Int) (by omega) (by omega)
      rw [HD.out] at hcs hcell
      obtain ⟨y0, y1, rfl⟩ : ∃ y0 y1, cs = [y0, y1] := by match cs, hcs with | [y0, y1], _ => exact ⟨y0, y1, rfl⟩
      clear hcs
      simp only [Int.toNat_natCast, getD_at hlt] at hK hcell
      have HK := Lib.hid (d.K_below HB.out hK)
      clear hK
      have d0 := pw_cell_below HB.out (hcell 0 y0 rfl)
      have d1 := pw_cell_below HB.out (hcell 1 y1 rfl)
      clear hcell
      simp only [Nat.add_zero, Nat.mul_one] at d0
      rw [add_field _ _ 1 (by omega)] at d1
      cases b
      · have B3 := Lib.hid (B2.out rfl)
        clear B1 B2
        go_wp2_with fail
        refine (HF.out l0[k] _ _ _ (List.getElem_mem hlt) HP.out HK.out HB.out).mono ?_
        rintro e w' ⟨rfl, hbx⟩
        have HB2 := hid_below HB hbx
        clear hbx
        go_wp2
        go_roundw
        case rel => exact ⟨k + 1, by omega, by go_num, B3, HB2⟩
        case measure => simp [intOf]; omega
      · have B3 := Lib.hid (B1.out rfl)
        clear B1 B2
        go_wp2_with fail
        refine (HF.out l0[k] _ _ _ (List.getElem_mem hlt) HP.out HK.out HB.out).mono ?_
        rintro e w' ⟨rfl, hbx⟩
        have HB2 := hid_below HB hbx
        clear hbx
        go_wp2
        go_ret
        obtain rfl := B3.out
        exact ⟨rfl, HB2.out⟩
    · obtain rfl : k = l0.length := by omega
      go_wp2
      go_ret
      exact ⟨by rw [idxO_end HE.out]; rfl, HB.out⟩

end Go.Proofs.YtpjpnppoejnafaaDoor.G

/- G57 -/
-- Laid by wip/g/gprint.py out of the translation, by the kit's print program. Lean checks it.
namespace Go.Proofs.YtpjpnppoejnafaaDoor.G
open Go.RowKit Go.Proofs.YtpjpnppoejnafaaDoorW.PrintWords Go.Proofs.YtpjpnppoejnafaaDoorW.PrintLast Go.Proofs.YtpjpnppoejnafaaDoorW.PrintMore
attribute [local go_sem] max2_int min2_int max_two min_two max_three min_three max_four min_four   -- for this text's walks alone
set_option linter.unusedVariables false
set_option linter.unusedSimpArgs false

/-! ### slices_DeleteFunc_simpl_Label_impl_Label: function 57 -/
set_option maxHeartbeats 1000000 in
set_option maxRecDepth 100000 in
theorem slices_DeleteFunc_simpl_Label_impl_Label.calls {α : Type} (d : Kd α) (hd : d.sz = 2) (kf : Nat) (hkf : ∀ (zs : Array Value) (W : World), (callFunc kf zs).run Tryd.prog W = .ok (.enter kf zs) W) (caps : Array Value) (p : α → Option Bool) (u : Value) (l0 r : List α) (ok : Nat → Prop) (w0 w : World) (hB : Below w0.heap.size w0 w) (hR : d.R 42 w w0.heap.size ok u l0)
    (hf : ∀ (x : α) (cs : List Value) (b : Bool) (W : World), x ∈ l0 → p x = some b → d.K W x cs → Kept w W (fun k => some k = u.ownBlock) → Calls Tryd.prog kf (#[(.agg (cs).toArray)] ++ caps) W fun e w' => e = .returned (.bool b) ∧ Below W.heap.size W w') (h : delO p l0 = some r) :
    Calls Tryd.prog 57 #[u, .func (.func kf) #[] caps] w fun e w' => ∃ v, e = .returned v ∧ d.R 42 w' w0.heap.size ok v r ∧ Below w0.heap.size w0 w' ∧ Kept w w' (fun k => some k = u.ownBlock) ∧ (v.ownBlock = none ∨ v.ownBlock = u.ownBlock) := by
  obtain ⟨i, hi, hcase⟩ := delO_idx l0 0 r h
  obtain ⟨A0, c, rfl, hle, hC⟩ := Kd.R_reads hR
  have hm : l0.length ≤ 9223372036854775807 := hC.2.1
  have HC := Lib.hid hC
  have HR := Lib.hid hR
  have HF := Lib.hid hf
  have HI := Lib.hid hi
  have HD := Lib.hid hd
  have HB0 := Lib.hid hB
  have HL := Lib.hid hle
  clear hR hf h hi hd hB hC
  rcases hcase with ⟨rfl, rfl⟩ | ⟨m, rfl, hml, r2, h2, rfl⟩
  · go_enter Tryd.func57, Tryd.ntmps57
    go_wp2_with fail
    refine (slices_IndexFunc_simpl_Label_impl_Label.calls d HD.out kf hkf caps p A0 c r _ _ HC.out HL.out (fun x cs b W hx hp hk hb => HF.out x cs b W hx hp hk (Kept.of_below hb _)) HI.out).mono ?_
    rintro e w1 ⟨rfl, hb1⟩
    have HB1 := Lib.hid hb1
    clear hb1
    go_wp2
    go_ret
    exact ⟨_, rfl, Kd.R_below HR.out HB1.out, below_then HB0.out HB0.out.size HB1.out, Kept.of_below HB1.out _, .inr rfl⟩
  · obtain ⟨g, cur, rfl, _, hg, hh, _, hcm, hs, hok, hreps⟩ := R_block HR.out (by omega)
    simp only [Nat.zero_add] at HI
    have hcle : c ≤ 9223372036854775807 := by unfold maxLen at hcm; omega
    have HH := Lib.hid hh
    have HS := Lib.hid hs
    have HG := Lib.hid hg
    have HOK := Lib.hid hok
    have HRP := Lib.hid hreps
    have H2 := Lib.hid h2
    have HCM := Lib.hid hcm
    clear hh hs hg hok hreps h2 hcm
    have hnm : ((m : Int) == -1) = false := by rw [beq_eq_false_iff_ne]; omega
    go_enter Tryd.func57, Tryd.ntmps57
    go_wp2_with fail
    refine (slices_IndexFunc_simpl_Label_impl_Label.calls d HD.out kf hkf caps p _ c l0 _ _ HC.out HL.out (fun x cs b W hx hp hk hb => HF.out x cs b W hx hp hk (Kept.of_below hb _)) HI.out).mono ?_
    rintro e w1 ⟨rfl, hb1⟩
    have HST := Lib.hid (del_start HG.out HH.out HRP.out HB0.out hb1 hml H2.out rfl)
    clear hb1
    go_wp2
    go_loopw [5, 6] (fun i j wr => ∃ a k : Nat, i = .int .i64 a ∧ j = .int .i64 k ∧ a < k ∧ k ≤ l0.length ∧ Hid (DelSt d 42 p l0 (l0.take m ++ r2) ok w0 w g cur a k wr)) (fun _ j _ => l0.length - (intOf j).toNat)
    case atStart => exact ⟨m, m + 1, rfl, by go_num, by omega, by omega, HST⟩
    case round =>
      obtain ⟨a, k, rfl, rfl, hak, hkl, HE⟩ := hrel
      by_cases hlt : k < l0.length
      · obtain ⟨cs, b, hcs, hp, hM, hcell, hfz, hsome⟩ := del_read HH.out HS.out HL.out HRP.out HE.out hlt
        have HM := Lib.hid hM
        have hone := d.K_one (d.K_of_M hM)
        have HP := Lib.hid hp
        have hlen := hcs
        rw [HD.out] at hcs hcell hsome
        obtain ⟨y0, y1, rfl⟩ : ∃ y0 y1, cs = [y0, y1] := by match cs, hcs with | [y0, y1], _ => exact ⟨y0, y1, rfl⟩
        have HLEN := Lib.hid hlen
        clear hM hp hcs hlen
        have hal : a * 2 + 2 ≤ c * 2 := by omega
        have d0 := hcell 0 y0 rfl
        have t0 := fun (a : Addr) (W : World) (q : Mode) => run_store Tryd.prog W a y0 q (hone y0 (by simp))
        have d1 := hcell 1 y1 rfl
        have t1 := fun (a : Addr) (W : World) (q : Mode) => run_store Tryd.prog W a y1 q (hone y1 (by simp))
        clear hone
        obtain ⟨u0, e0⟩ := hsome (a * 2 + 0) (by omega)
        obtain ⟨u1, e1⟩ := hsome (a * 2 + 1) (by omega)
        simp only [Nat.add_zero, Nat.mul_one] at d0 e0
        have f0 := hfz (a * 2 + 0)
        have f1 := hfz (a * 2 + 1)
        simp only [Nat.add_zero, Nat.mul_one] at f0
        clear hcell hsome hfz
        have hgw := World.block_lt_of_cell? wr _ d0
        simp only at hgw
        have HW := Lib.hid (below_alloc (Below.refl wr.heap.size wr) (.cells #[y0, y1] 42))
        cases b
        · go_wp2_with fail
          refine (HF.out l0[k] _ _ _ (List.getElem_mem hlt) HP.out (d.K_of_M (Kd.M_below HM.out HW.out)) ((HE.out.kept.below HW.out).mono (fun k hk => by rw [hk]; rfl))).mono ?_
          rintro e w2 ⟨rfl, hb2⟩
          have hb3 := below_then HW.out HW.out.size hb2
          have e0x := pw_cell_below hb3 e0
          have f0x := (hb3.frozen (p := ⟨g, a * 2 + 0, none⟩) hgw).trans f0
          have e1x := pw_cell_below hb3 e1
          have f1x := (hb3.frozen (p := ⟨g, a * 2 + 1, none⟩) hgw).trans f1
          have s0x : w2.cell? ⟨wr.heap.size, 0, none⟩ = some y0 := pw_cell_below hb2 (by simp)
          have s1x : w2.cell? ⟨wr.heap.size, 1, none⟩ = some y1 := pw_cell_below hb2 (by simp)
          simp only [Nat.add_zero, Nat.mul_one] at f0x
          have HN := Lib.hid (del_keep HG.out HS.out HL.out HE.out hlt HP.out hb3 HLEN.out HM.out)
          clear d0 d1 e0 e1 f0 f1 hb2 hb3
          rw [HD.out] at HN
          simp only [World.setCells, Nat.add_assoc, Nat.reduceAdd] at HN
          go_wp2
          go_roundw
          case rel => exact ⟨a + 1, k + 1, by go_num, by go_num, by omega, by omega, HN⟩
          case measure => simp [intOf]; omega
        · go_wp2_with fail
          refine (HF.out l0[k] _ _ _ (List.getElem_mem hlt) HP.out (d.K_of_M (Kd.M_below HM.out HW.out)) ((HE.out.kept.below HW.out).mono (fun k hk => by rw [hk]; rfl))).mono ?_
          rintro e w2 ⟨rfl, hb2⟩
          have HN := Lib.hid (del_skip HE.out hlt HP.out (below_then HW.out HW.out.size hb2))
          clear hb2
          go_wp2
          go_roundw
          case rel => exact ⟨a, k + 1, rfl, by go_num, by omega, by omega, HN⟩
          case measure => simp [intOf]; omega
      · obtain rfl : k = l0.length := by omega
        have hcl : l0.length ≤ c := HL.out
        have hca : ¬ c = a := by omega
        obtain ⟨cur2, ys, r3, _, hh2, hs2, _⟩ := HE.out.st
        have hs3 : cur2.size = c * 2 := by rw [hs2, HS.out, HD.out]
        have hcz : (Value.cells (.agg #[(.string ⟨#[]⟩), (.string ⟨#[]⟩)])).size = 2 := rfl
        have hclr := fun ty => run_clear_cells (P := Tryd.prog) wr 22 42 ty (.agg #[(.string ⟨#[]⟩), (.string ⟨#[]⟩)]) Tryd.underlying22 (fun w => by kernel_rfl) (by decide) g (a * 2) (l0.length - a) (c - a) (by omega) (fun j hj => by rw [hcz] at hj; rw [blk_cell hh2, Array.getElem?_eq_getElem (by omega)]; rfl) (fun j => blk_frozen hh2 j)
        have HEND := Lib.hid (del_end HG.out HS.out HCM.out HL.out HOK.out HE.out (zs := (Builtin.zeroCells (Value.cells (.agg #[(.string ⟨#[]⟩), (.string ⟨#[]⟩)])) (l0.length - a)).toList) (by simp only [Builtin.zeroCells, Array.length_toList, Array.size_map, Array.size_range]; rw [HD.out, hcz]; omega))
        rw [HD.out] at HEND
        clear hh2 hs2 hs3
        generalize (Builtin.zeroCells (Value.cells (.agg #[(.string ⟨#[]⟩), (.string ⟨#[]⟩)])) (l0.length - a)).toList = zs at hclr HEND
        go_wp2
        go_ret
        exact ⟨_, rfl, HEND.out.1, HEND.out.2.1, HEND.out.2.2.mono (fun k hk => by rw [hk]; rfl), .inr rfl⟩

end Go.Proofs.YtpjpnppoejnafaaDoor.G

/- G58 -/
-- Laid by wip/g/gprint.py out of the translation, by the kit's print program. Lean checks it.
namespace Go.Proofs.YtpjpnppoejnafaaDoor.G
open Go.RowKit Go.Proofs.YtpjpnppoejnafaaDoorW.PrintWords Go.Proofs.YtpjpnppoejnafaaDoorW.PrintLast Go.Proofs.YtpjpnppoejnafaaDoorW.PrintMore
attribute [local go_sem] max2_int min2_int max_two min_two max_three min_three max_four min_four   -- for this text's walks alone
set_option linter.unusedVariables false
set_option linter.unusedSimpArgs false

/-! ### impl_LabelDrop_1: function 58 -/
theorem impl_LabelDrop_1.calls (x : S42) (key : ByteArray) (g : Nat) (W : World) (hb : W.heap[g]? = some (.cells #[.string key] 9 (0, 0))) :
    Calls Tryd.prog 58 #[.agg #[.string x.f0, .string x.f1], .pointer (some ⟨g, 0, none⟩)] W fun e w' => e = .returned (.bool (x.f0.toList == key.toList)) ∧ Below W.heap.size W w' := by
  have hlt := blk_lt hb
  have hc := blk_cell hb 0
  simp only [List.getElem?_toArray, List.getElem?_cons_zero] at hc
  clear hb
  go_enter Tryd.func58, Tryd.ntmps58
  go_wp2
  go_ret
  exact ⟨rfl, by repeat (first | exact Below.refl _ _ | apply below_alloc | apply pw_below_drewN | apply below_drew1)⟩

end Go.Proofs.YtpjpnppoejnafaaDoor.G

/- G22 -/
-- Laid by wip/g/gprint.py out of the translation, by the kit's print program. Lean checks it.
namespace Go.Proofs.YtpjpnppoejnafaaDoor.G
open Go.RowKit Go.Proofs.YtpjpnppoejnafaaDoorW.PrintWords Go.Proofs.YtpjpnppoejnafaaDoorW.PrintLast Go.Proofs.YtpjpnppoejnafaaDoorW.PrintMore
attribute [local go_sem] max2_int min2_int max_two min_two max_three min_three max_four min_four   -- for this text's walks alone
set_option linter.unusedVariables false
set_option linter.unusedSimpArgs false

/-! ### impl_LabelDrop: function 22 -/
def impl_LabelDrop.f (l0 : List S42) (a1 : ByteArray) : Option (List S42) := if l0.length < 4398046511104 then delO (fun x => some (x.f0.toList == a1.toList)) l0 else none
theorem impl_LabelDrop.calls (A0 : Option Addr) (c0 : Nat) (l0 : List (S42)) (a1 : ByteArray) (r : List (S42)) (w : World) (hr0 : Kd.C k42 w A0 l0.length l0) (hc0 : l0.length ≤ c0) (h : impl_LabelDrop.f l0 a1 = some r) :
    Calls Tryd.prog 22 #[.slice A0 l0.length c0, .string a1] w fun e w' => ∃ v0_ : Value, e = .returned (v0_) ∧ Kd.R k42 42 w' w.heap.size (fun _ => True) v0_ r ∧ Below w.heap.size w w' := by
  unfold impl_LabelDrop.f at h
  by_cases hl : l0.length < 4398046511104
  · rw [if_pos hl] at h
    have HB := Lib.hid (below_alloc (Below.refl w.heap.size w) (.cells #[.string a1] 9))
    have HR := Lib.hid (Kd.C_below hr0 HB.out)
    have HH := Lib.hid h
    have HL : Hid (slices_Clone_simpl_Label_impl_Label.f l0 = some l0) := by unfold Hid slices_Clone_simpl_Label_impl_Label.f; rw [if_pos hl]
    have HK : Hid ((w.alloc (.cells #[.string a1] 9)).heap[w.heap.size]? = some (.cells #[.string a1] 9 (0, 0))) := by exact heap_alloc_new _ _
    clear hr0 h hl
    go_enter Tryd.func22, Tryd.ntmps22
    go_wp2_with fail
    refine (slices_Clone_simpl_Label_impl_Label.calls A0 c0 l0 l0 _ HR.out hc0 HL.out).mono ?_
    rintro e w1 ⟨v, rfl, hv, hb1⟩
    have HV := Lib.hid hv
    have HB1 := Lib.hid hb1
    clear hv hb1
    go_wp2_with fail
    refine (slices_DeleteFunc_simpl_Label_impl_Label.calls k42 rfl _ (fun _ _ => by kernel_rfl) _ _ v l0 r (fun _ => True) _ _ HB1.out HV.out ?_ HH.out).mono ?_
    · intro x cs b W hx hp hk hkept
      obtain rfl := k42_open hk
      cases hp
      refine impl_LabelDrop_1.calls x a1 w.heap.size W ?_
      have h1 := (HB1.out.block w.heap.size (blk_lt HK.out)).trans HK.out
      refine blk_kept h1 hkept (fun e => ?_)
      have h3 := Kd.R_base HV.out w.heap.size e.symm
      have h4 : w.heap.size + 1 ≤ w.heap.size := by simpa using h3
      omega
    · rintro e w2 ⟨v2, rfl, hv2, hb2, _, _⟩
      have HV2 := Lib.hid hv2
      have HB2 := Lib.hid hb2
      clear hv2 hb2
      go_wp2
      go_ret
      exact ⟨_, rfl, Kd.R_lower HV2.out (by simp), below_then HB.out HB.out.size HB2.out⟩
  · rw [if_neg hl] at h
    cases h

end Go.Proofs.YtpjpnppoejnafaaDoor.G

/- PDel -/
/-
  Labels dropped, the program's.
-/
namespace Go.Proofs.YtpjpnppoejnafaaDoor.G
open Go.RowKit Go.Proofs.YtpjpnppoejnafaaDoorW.PrintWords Go.Proofs.YtpjpnppoejnafaaDoorW.PrintLast Go.Proofs.YtpjpnppoejnafaaDoorW.PrintMore
set_option linter.unusedVariables false
set_option linter.unusedSimpArgs false
theorem delO_total {α : Type} (q : α → Bool) : ∀ (l : List α), delO (fun x => some (q x)) l = some (l.filter (fun x => !q x))
  | [] => rfl
  | x :: xs => by
    rw [delO, Option.bind_some, delO_total q xs, Option.bind_some, List.filter_cons]
    cases q x <;> rfl
def dropLab (xs : List ILab) (key : ByteArray) : List ILab := xs.filter (fun x => !(x.f0.toList == key.toList))
theorem dropLab_len (xs : List ILab) (key : ByteArray) : (dropLab xs key).length ≤ xs.length := List.length_filter_le _ _
theorem implLabelDrop_f (xs : List ILab) (key : ByteArray) (hl : xs.length ≤ 1048576) : impl_LabelDrop.f xs key = some (dropLab xs key) := by
  unfold impl_LabelDrop.f
  rw [if_pos (by omega), delO_total]; rfl
end Go.Proofs.YtpjpnppoejnafaaDoor.G

/- GKIns -/
/-
  Rows of several cells an element: copied, lengthened by zeros, a new element put in; a search by halves.
-/
namespace Go.Proofs.YtpjpnppoejnafaaDoor.G
open Go.RowKit Go.Proofs.YtpjpnppoejnafaaDoorW.PrintWords Go.Proofs.YtpjpnppoejnafaaDoorW.PrintLast Go.Proofs.YtpjpnppoejnafaaDoorW.PrintMore
set_option linter.unusedVariables false
set_option linter.unusedSimpArgs false
theorem run_copy_k {P : Program} (w : World) (dT sT ty elem : TypeId) (m b o dLen dCap : Nat) (a : Addr) (sLen sCap : Nat) (cs : List Value)
    (hu : P.underlying dT = some (.slice elem)) (hs : (P.info? elem).map (·.size) = some m) (hn : cs.length = Nat.min sLen dLen * m)
    (hsrc : ∀ j v, cs[j]? = some v → w.cell? (a.add j) = some v) (hc : ∀ j, j < cs.length → (w.cell? ⟨b, o + j, none⟩).isSome = true) (hf : ∀ j, j < cs.length → w.frozen? ⟨b, o + j, none⟩ = false) (h1 : ∀ v ∈ cs, v.oneCell' = true) :
    (Builtin.copy_ #[dT, sT] ty #[.slice (some ⟨b, o, none⟩) dLen dCap, .slice (some a) sLen sCap]).run P w = .ok (goInt (Nat.min sLen dLen)) (w.setCells b o cs) := by
  have hl := fun len cap => run_firstCells_some (P := P) w m (Nat.min sLen dLen) a len cap cs hn hsrc
  have hst := run_storeCells_cells (P := P) b o cs 0 w (by simpa using hc) (by simpa using hf) h1
  cases hq : P.info? elem with
  | none => simp [hq] at hs
  | some i =>
    have hi : i.size = m := by simpa [hq] using hs
    simp only [Nat.add_zero] at hst
    have hl1 := hl sLen sCap
    have hmin : Nat.min sLen dLen = min sLen dLen := rfl
    simp [Builtin.copy_, run_underlying hu, Builtin.lenOf, sizeOf, typeInfo, hq, hi]
    rw [hl1]
    simp [hst]
theorem run_append_grow_zeros {P : Program} (w : World) (t tn ty e : TypeId) (i : TypeInfo) (z : Value) (kn : IntKind) (ht : P.underlying t = some (.slice e)) (htn : P.underlying tn = some (.int kn)) (hi : P.info? e = some i) (hz : i.zero = some z)
    (base : Option Addr) (sLen sCap : Nat) (olds : List Value) (hold : (Builtin.firstCells i.size sLen (.slice base sLen sCap)).run P w.drew = .ok olds.toArray w.drew) (n : Nat) (hn0 : 0 < n) (hs : 0 < i.size)
    (hg : sCap < sLen + n) (h63 : ((sLen + n : Nat) : Int) ≤ 9223372036854775807) (h48 : n * i.bytes ≤ 281474976710656) (hfit : Builtin.nextslicecap (sLen + n) sCap * i.bytes ≤ 281474976710656) :
    (Builtin.append_ #[t, tn] ty #[.slice base sLen sCap, .int .i64 n]).run P w =
      .ok (.slice (some ⟨w.heap.size, 0, none⟩) (sLen + n) (grownCap w (sLen + n) sCap e))
        (w.drew.alloc (.cells (olds.toArray ++ Builtin.zeroCells z.cells n ++ Builtin.zeroCells z.cells (grownCap w (sLen + n) sCap e - (sLen + n))) e)) := by
  have hn : ¬ (sLen + n ≤ sCap) := by omega
  have hw : IntKind.i64.wrap (n : Int) = n := by rw [IntKind.wrap_i64]; omega
  have h63' : ¬ (9223372036854775807 < ((sLen : Int) + (n : Int))) := by omega
  have h48' : ¬ (281474976710656 < Builtin.nextslicecap (sLen + n) sCap * i.bytes) := by omega
  have h48i : ¬ (281474976710656 < (n : Int) * (i.bytes : Int)) := by rw [← Int.natCast_mul]; omega
  have hneg : ¬ ((n : Int) < 0) := by omega
  have hns : ¬ (n * i.size = 0) := Nat.mul_ne_zero (by omega) (by omega)
  simp [Builtin.append_, run_underlying ht, run_underlying htn, sizeOf, typeInfo, zeroValue, hi, hz, asInt, asIntOf, hw, hn, hneg, hns, h63', h48', h48i, Question.forced, hold, newRow, grownCap]
/-! ### a search by halves, as a function -/
def bsL {α : Type} (p : α → Option Int) (l : List α) : Nat → Nat → Nat → Option Nat
  | 0, i, j => if i < j then none else some i
  | f + 1, i, j => if i < j then (l[(i + j) / 2]?).bind fun x => (p x).bind fun c => if c < 0 then bsL p l f ((i + j) / 2 + 1) j else bsL p l f i ((i + j) / 2) else some i
def bsO {α : Type} (p : α → Option Int) (l : List α) : Option (Nat × Bool) :=
  (bsL p l l.length 0 l.length).bind fun i => match l[i]? with
    | none => some (i, false)
    | some x => (p x).bind fun c => some (i, c == 0)
theorem bsL_step {α : Type} {p : α → Option Int} {l : List α} {f i j r : Nat} (hij : i < j) (hj : j ≤ l.length) (h : bsL p l f i j = some r) :
    ∃ f', f = f' + 1 ∧ ∃ (hk : (i + j) / 2 < l.length) (c : Int), p l[(i + j) / 2] = some c ∧ (c < 0 → bsL p l f' ((i + j) / 2 + 1) j = some r) ∧ (¬ c < 0 → bsL p l f' i ((i + j) / 2) = some r) := by
  cases f with
  | zero => rw [bsL, if_pos hij] at h; cases h
  | succ f =>
    rw [bsL, if_pos hij] at h
    have hk : (i + j) / 2 < l.length := by omega
    rw [List.getElem?_eq_getElem hk, Option.bind_some] at h
    obtain ⟨c, hc, h⟩ := bind_some' h
    refine ⟨f, rfl, hk, c, hc, fun hlt => ?_, fun hlt => ?_⟩
    · rw [if_pos hlt] at h; exact h
    · rw [if_neg hlt] at h; exact h
theorem bsL_end {α : Type} {p : α → Option Int} {l : List α} {f i j r : Nat} (hij : ¬ i < j) (h : bsL p l f i j = some r) : r = i := by
  cases f <;> (rw [bsL, if_neg hij] at h; exact (Option.some.inj h).symm)
theorem bsL_le {α : Type} {p : α → Option Int} {l : List α} : ∀ {f i j r : Nat}, i ≤ j → bsL p l f i j = some r → i ≤ r ∧ r ≤ j
  | 0, i, j, r, hij, h => by
    rw [bsL] at h
    split at h
    · cases h
    · cases h; omega
  | f + 1, i, j, r, hij, h => by
    rw [bsL] at h
    split at h
    · obtain ⟨x, _, h⟩ := bind_some' h
      obtain ⟨c, _, h⟩ := bind_some' h
      split at h
      · have := bsL_le (by omega) h; omega
      · have := bsL_le (by omega) h; omega
    · cases h; omega
/-! ### elements in a row: cut, joined; a row written anew -/
theorem reps_app {α : Type} {R : α → List Value → Prop} {m : Nat} {xs ys : List α} {cs ds : List Value} (h : Reps R m xs cs) (k : Reps R m ys ds) : Reps R m (xs ++ ys) (cs ++ ds) := by
  refine ⟨by rw [List.length_append, List.length_append, h.1, k.1, Nat.add_mul], fun j q hq => ?_⟩
  by_cases hj : j < xs.length
  · rw [List.getElem?_append_left hj] at hq
    have h1 : j * m + m ≤ xs.length * m := by rw [← Nat.succ_mul]; exact Nat.mul_le_mul_right _ hj
    have h2 := h.1
    rw [List.drop_append_of_le_length (by omega), List.take_append_of_le_length (by rw [List.length_drop]; omega)]
    exact h.2 j q hq
  · rw [List.getElem?_append_right (by omega)] at hq
    have h2 := h.1
    have h3 : j * m = cs.length + (j - xs.length) * m := by rw [h2, ← Nat.add_mul]; congr 1; omega
    rw [h3, ← List.drop_drop, List.drop_left]
    exact k.2 _ q hq
theorem reps_cut {α : Type} {R : α → List Value → Prop} {m : Nat} {xs : List α} {cs : List Value} (h : Reps R m xs cs) (k : Nat) : Reps R m (xs.drop k) (cs.drop (k * m)) := by
  refine ⟨by rw [List.length_drop, List.length_drop, h.1, Nat.sub_mul], fun j q hq => ?_⟩
  rw [List.getElem?_drop] at hq
  rw [List.drop_drop, ← Nat.add_mul]
  exact h.2 _ q hq
theorem reps_one' {α : Type} {R : α → List Value → Prop} {m : Nat} {x : α} {cs : List Value} (h : R x cs) (hl : cs.length = m) : Reps R m [x] cs := by
  refine ⟨by simp [hl], fun j q hq => ?_⟩
  cases j with
  | zero => simp at hq; subst hq; simp only [Nat.zero_mul, List.drop_zero]; rw [List.take_of_length_le (by omega)]; exact h
  | succ j => simp at hq
theorem reps_put {α : Type} {R : α → List Value → Prop} {m : Nat} {xs : List α} {cs vs : List Value} {x : α} (h : Reps R m xs cs) (i : Nat) (hi : i ≤ xs.length) (hx : R x vs) (hl : vs.length = m) :
    Reps R m (xs.take i ++ x :: xs.drop i) (cs.take (i * m) ++ (vs ++ cs.drop (i * m))) := by
  have h1 := reps_app (reps_take h i hi) (reps_app (reps_one' hx hl) (reps_cut h i))
  simpa using h1
theorem R_put {α : Type} {d : Kd α} {t base : Nat} {ok : Nat → Prop} {w w' : World} {g' C : Nat} {cur' : Array Value} {zs : List α} {inner : List Value} {own : Option Nat}
    (hr : Reps (d.M w base (fun k => ok k ∧ some k ≠ own)) d.sz zs inner) (hb : base ≤ g') (hh : w'.heap[g']? = some (.cells cur' t (0, 0))) (h1 : zs.length ≤ C) (h2 : C ≤ maxLen) (h3 : cur'.size = C * d.sz)
    (h4 : cur'.toList.take (zs.length * d.sz) = inner) (hok : ok g') (hg : own = some g' ∨ w.heap.size ≤ g') (hm : ∀ k, k < w.heap.size → some k ≠ own → w'.heap[k]? = w.heap[k]?) :
    d.R t w' base ok (.slice (some ⟨g', 0, none⟩) zs.length C) zs := by
  refine R_of_block hb hh h1 h2 h3 hok ?_
  rw [h4]
  refine hr.imp_ (fun q cq hq => ?_)
  have hb := d.M_bound hq
  refine d.M_mono (fun k hk => ⟨hk.1.1, ?_⟩) (d.M_move (fun k hk => hm k hk.2.2.1 hk.1.2) hb)
  rcases hg with hg | hg
  · intro e; exact hk.1.2 (by rw [hg, e])
  · have := hk.2.2.1; omega
theorem put_two (cur D vs : List Value) (a b : Nat) (hab : a + vs.length = b) (hb : b ≤ cur.length) :
    ((((cur.take b ++ D ++ cur.drop (b + D.length)).take a) ++ vs ++ ((cur.take b ++ D ++ cur.drop (b + D.length)).drop (a + vs.length))).take (b + D.length)) = cur.take a ++ (vs ++ D) := by
  have h1 : (cur.take b ++ D ++ cur.drop (b + D.length)).take a = cur.take a := by
    rw [List.append_assoc, List.take_append_of_le_length (by rw [List.length_take]; omega), List.take_take, Nat.min_eq_left (by omega)]
  have h2 : (cur.take b ++ D ++ cur.drop (b + D.length)).drop (a + vs.length) = D ++ cur.drop (b + D.length) := by
    rw [hab, List.append_assoc, List.drop_append_of_le_length (by rw [List.length_take]; omega), List.drop_of_length_le (by rw [List.length_take]; omega)]; rfl
  rw [h1, h2]
  have h3 : (cur.take a ++ vs).length = b := by rw [List.length_append, List.length_take]; omega
  rw [List.take_append, h3, List.take_of_length_le (by omega), Nat.add_sub_cancel_left, List.take_append_of_le_length (by omega), List.take_of_length_le (l := D) (by omega), List.append_assoc]
theorem put_end (cur vs : List Value) (a : Nat) (ha : a ≤ cur.length) : ((cur.take a ++ vs ++ cur.drop (a + vs.length)).take (a + vs.length)) = cur.take a ++ vs := by
  have h3 : (cur.take a ++ vs).length = a + vs.length := by rw [List.length_append, List.length_take]; omega
  rw [List.take_append, h3, Nat.sub_self, List.take_zero, List.append_nil, List.take_of_length_le (by omega)]
theorem put_three (cur D vs : List Value) (a b : Nat) (hab : a + vs.length = b) (hb : b ≤ cur.length) :
    ((((cur.take a ++ vs ++ cur.drop (a + vs.length)).take b) ++ D ++ ((cur.take a ++ vs ++ cur.drop (a + vs.length)).drop (b + D.length))).take (b + D.length)) = cur.take a ++ (vs ++ D) := by
  have h1 : (cur.take a ++ vs ++ cur.drop (a + vs.length)).take b = cur.take a ++ vs := by rw [← hab]; exact put_end cur vs a (by omega)
  rw [h1]
  have h3 : (cur.take a ++ vs ++ D).length = b + D.length := by rw [List.length_append, List.length_append, List.length_take]; omega
  rw [List.take_append, h3, Nat.sub_self, List.take_zero, List.append_nil, List.take_of_length_le (by omega), List.append_assoc]
theorem below_setCells {w0 W : World} {g : Nat} (hB : Below w0.heap.size w0 W) (hg : w0.heap.size ≤ g) (cs : List Value) (o : Nat) : Below w0.heap.size w0 (W.setCells g o cs) := by
  obtain ⟨s1, s2, s3, s4⟩ := setCells_same g cs o W
  exact ⟨by rw [s1]; exact hB.os, by rw [s2]; exact hB.tape, by rw [s3]; exact hB.output, by rw [s4]; exact hB.size, fun k hk => by rw [setCells_far cs _ k (by omega)]; exact hB.block k hk⟩
theorem size_setCells (W : World) (g : Nat) (cs : List Value) (o : Nat) : (W.setCells g o cs).heap.size = W.heap.size := (setCells_same g cs o W).2.2.2
theorem put_end' {cur inner vs : List Value} {n m : Nat} (hin : cur.take (n * m) = inner) (hv : vs.length = m) (hn : n * m ≤ cur.length) :
    (cur.take (n * m) ++ vs ++ cur.drop (n * m + vs.length)).take ((n + 1) * m) = inner.take (n * m) ++ (vs ++ inner.drop (n * m)) := by
  have e : (n + 1) * m = n * m + vs.length := by rw [Nat.succ_mul, hv]
  rw [e, put_end cur vs _ hn, hin]
  have hl : inner.length ≤ n * m := by rw [← hin, List.length_take]; omega
  rw [List.take_of_length_le hl, List.drop_of_length_le hl, List.append_nil]
theorem mid_len {cur : List Value} {i n m : Nat} (hi : i ≤ n) (hn : n * m ≤ cur.length) : (i + 1) * m + ((cur.take (n * m)).drop (i * m)).length = (n + 1) * m := by
  have h1 : i * m ≤ n * m := Nat.mul_le_mul_right _ hi
  rw [List.length_drop, List.length_take, Nat.min_eq_left hn, Nat.succ_mul, Nat.succ_mul]
  omega
theorem mid_inner {cur inner : List Value} {i n m : Nat} (hi : i ≤ n) (hin : cur.take (n * m) = inner) : inner.take (i * m) = cur.take (i * m) := by
  rw [← hin, List.take_take, Nat.min_eq_left (Nat.mul_le_mul_right _ hi)]
theorem put_mid' {cur inner vs : List Value} {i n m : Nat} (hi : i ≤ n) (hin : cur.take (n * m) = inner) (hv : vs.length = m) (hn : (n + 1) * m ≤ cur.length) :
    ((((cur.take ((i + 1) * m) ++ (cur.take (n * m)).drop (i * m) ++ cur.drop ((i + 1) * m + ((cur.take (n * m)).drop (i * m)).length)).take (i * m)) ++ vs ++
      ((cur.take ((i + 1) * m) ++ (cur.take (n * m)).drop (i * m) ++ cur.drop ((i + 1) * m + ((cur.take (n * m)).drop (i * m)).length)).drop (i * m + vs.length))).take ((n + 1) * m)) = inner.take (i * m) ++ (vs ++ inner.drop (i * m)) := by
  have hnm : n * m ≤ cur.length := by rw [Nat.succ_mul] at hn; omega
  have h2 : (i + 1) * m ≤ (n + 1) * m := Nat.mul_le_mul_right _ (by omega)
  have h1 := put_two cur ((cur.take (n * m)).drop (i * m)) vs (i * m) ((i + 1) * m) (by rw [hv, Nat.succ_mul]) (by omega)
  rw [mid_len hi hnm] at h1 ⊢
  rw [h1, mid_inner hi hin, hin]
theorem put_grow' {cur b2 inner vs : List Value} {i n m : Nat} (hi : i ≤ n) (hin : cur.take (n * m) = inner) (hv : vs.length = m) (hn : n * m ≤ cur.length) (hb : (n + 1) * m ≤ b2.length) (hbi : b2.take (i * m) = cur.take (i * m)) :
    ((((b2.take (i * m) ++ vs ++ b2.drop (i * m + vs.length)).take ((i + 1) * m)) ++ (cur.take (n * m)).drop (i * m) ++
      ((b2.take (i * m) ++ vs ++ b2.drop (i * m + vs.length)).drop ((i + 1) * m + ((cur.take (n * m)).drop (i * m)).length))).take ((n + 1) * m)) = inner.take (i * m) ++ (vs ++ inner.drop (i * m)) := by
  have h2 : (i + 1) * m ≤ (n + 1) * m := Nat.mul_le_mul_right _ (by omega)
  have h1 := put_three b2 ((cur.take (n * m)).drop (i * m)) vs (i * m) ((i + 1) * m) (by rw [hv, Nat.succ_mul]) (by omega)
  rw [mid_len hi hn] at h1 ⊢
  rw [h1, hbi, mid_inner hi hin, hin]
end Go.Proofs.YtpjpnppoejnafaaDoor.G

/- POrder -/
/-
  The order of texts; a search by halves where what is less stands ahead.
-/
namespace Go.Proofs.YtpjpnppoejnafaaDoor.G
open Go.RowKit Go.Proofs.YtpjpnppoejnafaaDoorW.PrintWords Go.Proofs.YtpjpnppoejnafaaDoorW.PrintLast Go.Proofs.YtpjpnppoejnafaaDoorW.PrintMore
set_option linter.unusedVariables false
set_option linter.unusedSimpArgs false
theorem bl_irrefl : ∀ a : List UInt8, Op.bytesLess a a = false
  | [] => by simp [Op.bytesLess]
  | a :: x => by simp [Op.bytesLess, bl_irrefl x]
theorem bl_trans : ∀ {a b c : List UInt8}, Op.bytesLess a b = true → Op.bytesLess b c = true → Op.bytesLess a c = true
  | _, [], _, h, _ => by simp [Op.bytesLess] at h
  | [], _ :: _, [], _, h => by simp [Op.bytesLess] at h
  | [], _ :: _, _ :: _, _, _ => by simp [Op.bytesLess]
  | _ :: _, _ :: _, [], _, h => by simp [Op.bytesLess] at h
  | a :: x, b :: y, c :: z, h, k => by
    simp only [Op.bytesLess, Bool.or_eq_true, decide_eq_true_eq, Bool.and_eq_true, beq_iff_eq, UInt8.lt_iff_toNat_lt] at h k ⊢
    rcases h with h | ⟨rfl, h⟩
    · rcases k with k | ⟨rfl, k⟩
      · exact .inl (by omega)
      · exact .inl h
    · rcases k with k | ⟨rfl, k⟩
      · exact .inl k
      · exact .inr ⟨rfl, bl_trans h k⟩
theorem cmp_neg : ∀ (a b : List UInt8), (Lib.compareBytes a b < 0) ↔ Op.bytesLess a b = true
  | [], [] => by simp [Lib.compareBytes, Op.bytesLess]
  | [], _ :: _ => by simp [Lib.compareBytes, Op.bytesLess]
  | _ :: _, [] => by simp [Lib.compareBytes, Op.bytesLess]
  | a :: x, b :: y => by
    simp only [Lib.compareBytes, Op.bytesLess, Bool.or_eq_true, decide_eq_true_eq, Bool.and_eq_true, beq_iff_eq]
    by_cases h1 : a < b
    · simp [h1]
    · by_cases h2 : b < a
      · have : ¬ a = b := by rintro rfl; exact h1 h2
        simp [h1, h2, this]
      · have : a = b := by rw [UInt8.lt_iff_toNat_lt] at h1 h2; exact UInt8.toNat_inj.1 (by omega)
        subst this
        simp [h1, cmp_neg x y]
theorem cmp_zero : ∀ (a b : List UInt8), Lib.compareBytes a b = 0 ↔ a = b
  | [], [] => by simp [Lib.compareBytes]
  | [], _ :: _ => by simp [Lib.compareBytes]
  | _ :: _, [] => by simp [Lib.compareBytes]
  | a :: x, b :: y => by
    simp only [Lib.compareBytes]
    by_cases h1 : a < b
    · have : ¬ a = b := by rintro rfl; exact absurd h1 (by rw [UInt8.lt_iff_toNat_lt]; omega)
      simp [h1, this]
    · by_cases h2 : b < a
      · have : ¬ a = b := by rintro rfl; exact h1 h2
        simp [h1, h2, this]
      · have : a = b := by rw [UInt8.lt_iff_toNat_lt] at h1 h2; exact UInt8.toNat_inj.1 (by omega)
        subst this
        simp [h1, cmp_zero x y]
theorem bl_total {a b : List UInt8} (h : Op.bytesLess a b = false) (h2 : a ≠ b) : Op.bytesLess b a = true := by
  have h1 : ¬ Lib.compareBytes a b < 0 := by rw [cmp_neg, h]; simp
  have h3 : Lib.compareBytes a b ≠ 0 := fun e => h2 ((cmp_zero a b).1 e)
  have key : ∀ (a b : List UInt8), Lib.compareBytes a b > 0 → Op.bytesLess b a = true := by
    intro a
    induction a with
    | nil => intro b; cases b <;> simp [Lib.compareBytes]
    | cons x xs ih =>
      intro b
      cases b with
      | nil => simp [Op.bytesLess]
      | cons y ys =>
        simp only [Lib.compareBytes, Op.bytesLess, Bool.or_eq_true, decide_eq_true_eq, Bool.and_eq_true, beq_iff_eq]
        by_cases h1 : x < y
        · simp [h1]
        · by_cases h2 : y < x
          · simp [h2]
          · have : x = y := by rw [UInt8.lt_iff_toNat_lt] at h1 h2; exact UInt8.toNat_inj.1 (by omega)
            subst this
            simp only [h1, if_false]
            intro h
            have h2 := ih ys h
            simp [h2]
  exact key a b (by omega)
/-! ### a search by halves -/
theorem bsL_tot {α : Type} (c : α → Int) (l : List α) : ∀ (f i j : Nat), i ≤ j → j ≤ l.length → j - i ≤ f → ∃ r, bsL (fun x => some (c x)) l f i j = some r
  | 0, i, j, h1, h2, h3 => ⟨i, by rw [bsL, if_neg (by omega)]⟩
  | f + 1, i, j, h1, h2, h3 => by
    rw [bsL]
    by_cases h : i < j
    · rw [if_pos h]
      have hk : (i + j) / 2 < l.length := by omega
      rw [List.getElem?_eq_getElem hk, Option.bind_some, Option.bind_some]
      by_cases hc : c l[(i + j) / 2] < 0
      · rw [if_pos hc]; exact bsL_tot c l f _ _ (by omega) h2 (by omega)
      · rw [if_neg hc]; exact bsL_tot c l f _ _ (by omega) (by omega) (by omega)
    · exact ⟨i, by rw [if_neg h]⟩
theorem bsO_tot {α : Type} (c : α → Int) (l : List α) : ∃ q, bsO (fun x => some (c x)) l = some q := by
  obtain ⟨r, hr⟩ := bsL_tot c l l.length 0 l.length (by omega) (by omega) (by omega)
  unfold bsO
  rw [hr, Option.bind_some]
  cases l[r]? with
  | none => exact ⟨_, rfl⟩
  | some x => exact ⟨_, rfl⟩
theorem bsL_part {α : Type} {c : α → Int} {P M : List α} (hP : ∀ x ∈ P, c x < 0) (hM : ∀ x ∈ M, ¬ c x < 0) : ∀ (f i j : Nat), i ≤ P.length → P.length ≤ j → j ≤ (P ++ M).length → j - i ≤ f → bsL (fun x => some (c x)) (P ++ M) f i j = some P.length
  | 0, i, j, h1, h2, h3, h4 => by
    rw [bsL, if_neg (by omega)]; congr 1; omega
  | f + 1, i, j, h1, h2, h3, h4 => by
    rw [bsL]
    by_cases h : i < j
    · rw [if_pos h]
      have hk : (i + j) / 2 < (P ++ M).length := by omega
      rw [List.getElem?_eq_getElem hk, Option.bind_some, Option.bind_some]
      by_cases hc : c (P ++ M)[(i + j) / 2] < 0
      · rw [if_pos hc]
        have : (i + j) / 2 < P.length := by
          refine Nat.lt_of_not_le (fun hle => ?_)
          rw [List.getElem_append_right hle] at hc
          exact hM _ (List.getElem_mem _) hc
        exact bsL_part hP hM f _ _ (by omega) h2 h3 (by omega)
      · rw [if_neg hc]
        have : P.length ≤ (i + j) / 2 := by
          refine Nat.le_of_not_lt (fun hlt => ?_)
          rw [List.getElem_append_left hlt] at hc
          exact hc (hP _ (List.getElem_mem _))
        exact bsL_part hP hM f _ _ h1 this (by omega) (by omega)
    · rw [if_neg h]; congr 1; omega
theorem bsO_part {α : Type} {c : α → Int} {P M : List α} (hP : ∀ x ∈ P, c x < 0) (hM : ∀ x ∈ M, ¬ c x < 0) : ∃ fd, bsO (fun x => some (c x)) (P ++ M) = some (P.length, fd) ∧ (fd = true ↔ ∃ x, M.head? = some x ∧ c x = 0) := by
  unfold bsO
  rw [bsL_part hP hM _ _ _ (by omega) (by simp) (by omega) (by omega), Option.bind_some, List.getElem?_append_right (Nat.le_refl _), Nat.sub_self]
  cases M with
  | nil => exact ⟨false, rfl, by simp⟩
  | cons x xs => exact ⟨c x == 0, rfl, by simp⟩
/-- What goes up by less: what is less than a bound stands ahead. -/
theorem up_parts {α : Type} {key : α → List UInt8} {k : List UInt8} : ∀ {l : List α}, l.Pairwise (fun x y => Op.bytesLess (key x) (key y) = true) → ∀ x ∈ l.dropWhile (fun x => Op.bytesLess (key x) k), ¬ Op.bytesLess (key x) k = true
  | [], _, x, hx => by simp at hx
  | y :: ys, h, x, hx => by
    rw [List.pairwise_cons] at h
    rw [List.dropWhile_cons] at hx
    by_cases hy : Op.bytesLess (key y) k = true
    · rw [if_pos hy] at hx
      exact up_parts h.2 x hx
    · rw [if_neg hy] at hx
      rcases List.mem_cons.1 hx with rfl | hx
      · exact hy
      · exact fun hk => hy (bl_trans (h.1 x hx) hk)
theorem pair_of_next {α : Type} {key : α → List UInt8} {l : List α} (h : ∀ i (h : i + 1 < l.length), Op.bytesLess (key l[i]) (key l[i + 1]) = true) : l.Pairwise (fun x y => Op.bytesLess (key x) (key y) = true) := by
  rw [List.pairwise_iff_getElem]
  have step : ∀ d i (hi : i < l.length) (hj : i + d + 1 < l.length), Op.bytesLess (key l[i]) (key l[i + d + 1]) = true := by
    intro d
    induction d with
    | zero => intro i hi hj; exact h i hj
    | succ d ih => intro i hi hj; exact bl_trans (ih i hi (by omega)) (h (i + d + 1) hj)
  intro i j hi hj hij
  have h1 := step (j - i - 1) i hi (by omega)
  have e : i + (j - i - 1) + 1 = j := by omega
  simp only [e] at h1
  exact h1
end Go.Proofs.YtpjpnppoejnafaaDoor.G

/- G49 -/
-- Laid by wip/g/gprint.py out of the translation, by the kit's print program. Lean checks it.
namespace Go.Proofs.YtpjpnppoejnafaaDoor.G
open Go.RowKit Go.Proofs.YtpjpnppoejnafaaDoorW.PrintWords Go.Proofs.YtpjpnppoejnafaaDoorW.PrintLast Go.Proofs.YtpjpnppoejnafaaDoorW.PrintMore
attribute [local go_sem] max2_int min2_int max_two min_two max_three min_three max_four min_four   -- for this text's walks alone
set_option linter.unusedVariables false
set_option linter.unusedSimpArgs false

/-! ### slices_BinarySearchFunc_simpl_Label_impl_Label_string: function 49 -/
--IMPORT Derived.Test.YtpjpnppoejnafaaDoorGKIns
set_option maxHeartbeats 1000000 in
set_option maxRecDepth 100000 in
theorem slices_BinarySearchFunc_simpl_Label_impl_Label_string.calls {α : Type} (d : Kd α) (hd : d.sz = 2) (kf : Nat) (hkf : ∀ (zs : Array Value) (W : World), (callFunc kf zs).run Tryd.prog W = .ok (.enter kf zs) W) (caps : Array Value) (p : α → Option Int) (A0 : Option Addr) (c0 : Nat) (l0 : List α) (tv : Value) (r : Nat) (fd : Bool) (w : World) (hr0 : Kd.C d w A0 l0.length l0) (hc0 : l0.length ≤ c0) (hlen_ : l0.length ≤ 4611686018427387903)
    (hf : ∀ (x : α) (cs : List Value) (b : Int) (W : World), x ∈ l0 → p x = some b → d.K W x cs → Below w.heap.size w W → Calls Tryd.prog kf (#[(.agg (cs).toArray), tv] ++ caps) W fun e w' => e = .returned (.int .i64 b) ∧ Below W.heap.size W w') (h : bsO p l0 = some (r, fd)) :
    Calls Tryd.prog 49 #[.slice A0 l0.length c0, tv, .func (.func kf) #[] caps] w fun e w' => e = .returned (.tuple #[.int .i64 r, .bool fd]) ∧ Below w.heap.size w w' := by
  have hm : l0.length ≤ 9223372036854775807 := hr0.2.1
  unfold bsO at h
  obtain ⟨i0, hi0, h⟩ := bind_some' h
  have HR := Lib.hid hr0
  have HF := Lib.hid hf
  have HI := Lib.hid hi0
  have HD := Lib.hid hd
  have HH := Lib.hid h
  clear hr0 hf hi0 hd h
  go_enter Tryd.func49, Tryd.ntmps49
  go_wp2
  go_loopw [9, 10, 11] (fun vi vj _ wr => ∃ i j f : Nat, vi = .int .i64 i ∧ vj = .int .i64 j ∧ i ≤ j ∧ j ≤ l0.length ∧ Hid (bsL p l0 f i j = some i0) ∧ Hid (Below w.heap.size w wr)) (fun vi vj _ _ => (intOf vj).toNat - (intOf vi).toNat)
  case atStart => exact ⟨0, l0.length, l0.length, rfl, rfl, by omega, by omega, HI, Below.refl _ _⟩
  case round =>
    obtain ⟨i, j, f, rfl, rfl, hij, hj, HE, HB⟩ := hrel
    by_cases hlt : i < j
    · obtain ⟨f2, rfl, hk, c, hp, h1, h2⟩ := bsL_step hlt hj HE.out
      have HP := Lib.hid hp
      have H1 := Lib.hid h1
      have H2 := Lib.hid h2
      clear hp h1 h2
      obtain ⟨k, hkk⟩ : ∃ k, (i + j) / 2 = k := ⟨_, rfl⟩
      have hltz : ((i : Nat) : Int) < ((j : Nat) : Int) := by omega
      have hw1 : IntKind.i64.wrap ((i : Int) + (j : Int)) = (i : Int) + (j : Int) := by rw [IntKind.wrap_i64]; omega
      have hkz : ((i : Int) + (j : Int)) / 2 = (k : Int) := by omega
      have hkl : k < l0.length := by omega
      have hki : i ≤ k ∧ k < j := by omega
      have HP2 : Hid (p l0[k] = some c) := by have h_ := HP.out; subst hkk; exact h_
      have H12 : Hid (c < 0 → bsL p l0 f2 (k + 1) j = some i0) := by have h_ := H1.out; subst hkk; exact h_
      have H22 : Hid (¬ c < 0 → bsL p l0 f2 i k = some i0) := by have h_ := H2.out; subst hkk; exact h_
      clear HP H1 H2 hk
      obtain ⟨ad, cs, rfl, hcs, hK, hcell⟩ := Kd.C_get HR.out l0[k] (k : Int) (by omega) (by omega)
      rw [HD.out] at hcs hcell
      obtain ⟨y0, y1, rfl⟩ : ∃ y0 y1, cs = [y0, y1] := by match cs, hcs with | [y0, y1], _ => exact ⟨y0, y1, rfl⟩
      clear hcs hkk
      simp only [Int.toNat_natCast, getD_at hkl] at hK hcell
      have HK := Lib.hid (d.K_below HB.out hK)
      clear hK
      have d0 := pw_cell_below HB.out (hcell 0 y0 rfl)
      have d1 := pw_cell_below HB.out (hcell 1 y1 rfl)
      clear hcell
      simp only [Nat.add_zero, Nat.mul_one] at d0
      rw [add_field _ _ 1 (by omega)] at d1
      by_cases hc : c < 0
      · have HN := Lib.hid (H12.out hc)
        go_wp2_with fail
        refine (HF.out l0[k] _ _ _ (List.getElem_mem hkl) HP2.out HK.out HB.out).mono ?_
        rintro e w' ⟨rfl, hbx⟩
        have HB2 := hid_below HB hbx
        clear hbx
        go_wp2
        go_roundw
        case rel => exact ⟨k + 1, j, f2, by go_num, rfl, by omega, by omega, HN, HB2⟩
        case measure => simp [intOf]; omega
      · have HN := Lib.hid (H22.out hc)
        go_wp2_with fail
        refine (HF.out l0[k] _ _ _ (List.getElem_mem hkl) HP2.out HK.out HB.out).mono ?_
        rintro e w' ⟨rfl, hbx⟩
        have HB2 := hid_below HB hbx
        clear hbx
        go_wp2
        go_roundw
        case rel => exact ⟨i, k, f2, rfl, by go_num, by omega, by omega, HN, HB2⟩
        case measure => simp [intOf]; omega
    · obtain rfl := bsL_end hlt HE.out
      have hji : ¬ ((i0 : Nat) : Int) < ((j : Nat) : Int) := by omega
      have hle : i0 ≤ l0.length := by omega
      by_cases hin : i0 < l0.length
      · have h_ := HH.out
        rw [List.getElem?_eq_getElem hin] at h_
        obtain ⟨c, hc, h2_⟩ := bind_some' h_
        cases h2_
        have HP := Lib.hid hc
        clear h_ hc
        obtain ⟨ad, cs, rfl, hcs, hK, hcell⟩ := Kd.C_get HR.out l0[r] (r : Int) (by omega) (by omega)
        rw [HD.out] at hcs hcell
        obtain ⟨y0, y1, rfl⟩ : ∃ y0 y1, cs = [y0, y1] := by match cs, hcs with | [y0, y1], _ => exact ⟨y0, y1, rfl⟩
        clear hcs
        simp only [Int.toNat_natCast, getD_at hin] at hK hcell
        have HK := Lib.hid (d.K_below HB.out hK)
        clear hK
        have d0 := pw_cell_below HB.out (hcell 0 y0 rfl)
        have d1 := pw_cell_below HB.out (hcell 1 y1 rfl)
        clear hcell
        simp only [Nat.add_zero, Nat.mul_one] at d0
        rw [add_field _ _ 1 (by omega)] at d1
        go_wp2_with fail
        refine (HF.out l0[r] _ _ _ (List.getElem_mem hin) HP.out HK.out HB.out).mono ?_
        rintro e w' ⟨rfl, hbx⟩
        have HB2 := hid_below HB hbx
        clear hbx
        go_wp2
        go_ret2
        exact ⟨by first | rfl | simp, HB2.out⟩
      · have h_ := HH.out
        rw [List.getElem?_eq_none (by omega)] at h_
        cases h_
        go_wp2
        go_ret2
        exact ⟨rfl, HB.out⟩

end Go.Proofs.YtpjpnppoejnafaaDoor.G

/- G51 -/
-- Laid by wip/g/gprint.py out of the translation, by the kit's print program. Lean checks it.
namespace Go.Proofs.YtpjpnppoejnafaaDoor.G
open Go.RowKit Go.Proofs.YtpjpnppoejnafaaDoorW.PrintWords Go.Proofs.YtpjpnppoejnafaaDoorW.PrintLast Go.Proofs.YtpjpnppoejnafaaDoorW.PrintMore
attribute [local go_sem] max2_int min2_int max_two min_two max_three min_three max_four min_four   -- for this text's walks alone
set_option linter.unusedVariables false
set_option linter.unusedSimpArgs false

/-! ### strings_Compare: function 51 -/
--IMPORT Derived.Test.YtpjpnppoejnafaaDoorShelf
def strings_Compare.f (a0 : ByteArray) (a1 : ByteArray) : Option Int := some (Lib.compareBytes a0.data.toList a1.data.toList)
theorem strings_Compare.calls (a0 : ByteArray) (a1 : ByteArray) (r : Int) (w : World) (h : strings_Compare.f a0 a1 = some r) :
    Calls Tryd.prog 51 #[.string a0, .string a1] w fun e w' => e = .returned (.int .i64 r) ∧ Drawn0 w w' := by
  obtain rfl := Option.some.inj h
  refine (Tryd.strings_Compare a0 a1 w).mono ?_
  rintro e w' ⟨rfl, rfl⟩
  exact ⟨rfl, Drawn0.refl _⟩

end Go.Proofs.YtpjpnppoejnafaaDoor.G

/- G50 -/
-- Laid by wip/g/gprint.py out of the translation, by the kit's print program. Lean checks it.
namespace Go.Proofs.YtpjpnppoejnafaaDoor.G
open Go.RowKit Go.Proofs.YtpjpnppoejnafaaDoorW.PrintWords Go.Proofs.YtpjpnppoejnafaaDoorW.PrintLast Go.Proofs.YtpjpnppoejnafaaDoorW.PrintMore
attribute [local go_sem] max2_int min2_int max_two min_two max_three min_three max_four min_four   -- for this text's walks alone
set_option linter.unusedVariables false
set_option linter.unusedSimpArgs false

/-! ### impl_LabelSet_1: function 50 -/
def impl_LabelSet_1.f (a0_0 : ByteArray) (a0_1 : ByteArray) (a1 : ByteArray) : Option (Int) := (strings_Compare.f a0_0 a1).bind fun t505 => (some t505)
set_option maxHeartbeats 8000000 in
set_option maxRecDepth 100000 in
theorem impl_LabelSet_1.calls (a0_0 : ByteArray) (a0_1 : ByteArray) (a1 : ByteArray) (r : Int) (w : World) (h : impl_LabelSet_1.f a0_0 a0_1 a1 = some r) :
    Calls Tryd.prog 50 #[.agg #[.string a0_0, .string a0_1], .string a1] w fun e w' => e = .returned (.int .i64 r) ∧ Below w.heap.size w w' := by
  have hu42 := Tryd.underlying42
  have HB := Aside0.mk (Below.refl w.heap.size w)
  have H : ((strings_Compare.f a0_0 a1).bind fun t505 => (some t505)) = some r := h
  clear h
  replace H := Option.bind_eq_some_iff.mp H
  obtain ⟨t505, A30, H⟩ := H
  replace H : (some t505) = some r := H
  have A3 := Aside0.mk A30
  clear A30
  obtain rfl := Option.some.inj H
  go_enter Tryd.func50, Tryd.ntmps50
  go_wp2_with (first | ((with_reducible refine gate_dst (N := 2) rfl ?_); refine box_event ?hg (N := 2) ?hd (cs := #[.string a0_0, .string a0_1]) (t := 42) ?hr ?_; (case hd => rfl); (case hg => rfl); (case hr => first | (go_simp; done) | (go_simp; rfl)); intro gb504 hg w4 hbox hb; have n0_ := Aside0.mk (below_step (by repeat (first | (with_reducible first | exact HB.out | apply below_alloc | apply pw_below_drewN | apply below_drew1) | exact HB.out)) hb); have n1_ := Aside0.mk (hbox); have n2_ := Aside0.mk ((by rw [hg]; exact (below_size (by repeat (first | (with_reducible first | exact HB.out | apply below_alloc | apply pw_below_drewN | apply below_drew1) | exact HB.out))) : w.heap.size ≤ gb504)); have n3_ := Aside0.mk ((by rw [hg]; exact (below_size (by repeat (first | (with_reducible first | exact HB.out | apply below_alloc | apply pw_below_drewN | apply below_drew1) | exact HB.out))) : w.heap.size ≤ gb504)); clear HB; have HB := n0_; have BK504 := n1_; have GW504 := n2_; have GE504 := n3_; clear n0_ n1_ n2_ n3_; clear hb hbox hg; have hcz5_0 : w4.cell? ⟨gb504, 0, none⟩ = some (.string a0_0) := (blk_cell BK504.out 0).trans rfl; have hcz5_1 : w4.cell? ⟨gb504, 1, none⟩ = some (.string a0_1) := (blk_cell BK504.out 1).trans rfl; have hfz5_0 := blk_frozen BK504.out 0; have hfz5_1 := blk_frozen BK504.out 1) | ((with_reducible refine gate_callee (f := 51) rfl ?_); refine goesL_ (some 8) rfl rfl Tryd.func51 (by kernel_rfl) rfl #[.string a0_0, .string a1] rfl (by (try simp only [List.map_toArray, List.map_cons, List.map_nil]); first | done | rfl | (simp only [List.length_drop, List.length_take]; rfl)) ?_; (with_reducible refine (strings_Compare.calls a0_0 a1 t505 _ A3.out).mono ?_); rintro e w' ⟨rfl, ⟨nd, rfl⟩⟩; refine ⟨_, rfl, ?_⟩))
  go_ret
  exact ⟨by first | rfl | (simp [errW_none, errW_some] <;> rfl) | (simp [*, errW_none, errW_some] <;> rfl), by repeat (first | (with_reducible first | exact HB.out | apply below_alloc | apply pw_below_drewN | apply below_drew1 | refine below_set ?_ GE504.out) | exact HB.out)⟩

end Go.Proofs.YtpjpnppoejnafaaDoor.G

/- G53 -/
-- Laid by wip/g/gprint.py out of the translation, by the kit's print program. Lean checks it.
namespace Go.Proofs.YtpjpnppoejnafaaDoor.G
open Go.RowKit Go.Proofs.YtpjpnppoejnafaaDoorW.PrintWords Go.Proofs.YtpjpnppoejnafaaDoorW.PrintLast Go.Proofs.YtpjpnppoejnafaaDoorW.PrintMore
attribute [local go_sem] max2_int min2_int max_two min_two max_three min_three max_four min_four   -- for this text's walks alone
set_option linter.unusedVariables false
set_option linter.unusedSimpArgs false

/-! ### slices_Insert_simpl_Label_impl_Label: function 53 -/
--IMPORT Derived.Test.YtpjpnppoejnafaaDoorGKIns
set_option maxHeartbeats 4000000 in
set_option maxRecDepth 100000 in
theorem slices_Insert_simpl_Label_impl_Label.end_room (g n c vb : Nat) (cur : Array Value) (vs : List Value) (w : World) (hh : w.heap[g]? = some (.cells cur 42 (0, 0))) (hs : cur.size = c * 2) (hnc : n ≤ c) (hcm : c ≤ 9223372036854775807) (hvb : w.heap[vb]? = some (.cells vs.toArray 42 (0, 0))) (hvl : vs.length = 2) (hne : vb ≠ g) (h1 : ∀ v ∈ cur.toList.take (n * 2), v.oneCell' = true) (h1v : ∀ v ∈ vs, v.oneCell' = true) (hroom : n + 1 ≤ c) :
    Calls Tryd.prog 53 #[.slice (some ⟨g, 0, none⟩) n c, .int .i64 n, .slice (some ⟨vb, 0, none⟩) 1 1] w fun e w' => e = .returned (.slice (some ⟨g, 0, none⟩) (n + 1) c) ∧ w' = w.setCells g (n * 2) vs := by
  have hvs : ∀ j v, vs[j]? = some v → w.cell? ⟨vb, j, none⟩ = some v := fun j v hj => by rw [blk_cell hvb]; simpa using hj
  have hsz : (Tryd.prog.info? 42).map (·.size) = some 2 := by obtain ⟨i0, hi0, h0, h2, h3⟩ := info_parts info42; rw [hi0]; simp [h2]
  have hcl : ∀ j, j < c * 2 → (w.cell? ⟨g, j, none⟩).isSome = true := fun j hj => by rw [blk_cell hh, Array.getElem?_eq_getElem (by omega)]; rfl
  have hfz : ∀ j, w.frozen? ⟨g, j, none⟩ = false := fun j => blk_frozen hh j
  obtain ⟨i0, hi0, hz0, hzs, hzb⟩ := info_parts info42
  have hsrc : Src Tryd.prog i0.size 22 (.slice (some ⟨vb, 0, none⟩) 1 1) 1 vs w := by
    rw [hzs]
    exact Src.ofSlice w Tryd.underlying22 ⟨vb, 0, none⟩ 1 1 vs (by omega) (fun j u hj => by rw [Addr.add_lit, Nat.zero_add]; exact hvs j u hj) h1v
  have hrun : ∀ ty, (Builtin.append_ #[22, 22] ty #[.slice (some ⟨g, 0, none⟩) n c, .slice (some ⟨vb, 0, none⟩) 1 1]).run Tryd.prog w = .ok (.slice (some ⟨g, 0, none⟩) (n + 1) c) (w.setCells g (n * 2) vs) := fun ty => by
    have h_ := run_append_room_src w 22 22 ty 42 i0 Tryd.underlying22 hi0 g 0 n c _ 1 vs hsrc hroom (fun j hj => hcl _ (by rw [hzs, hvl] at *; omega)) (fun j hj => hfz _)
    rw [hzs, Nat.zero_add] at h_
    exact h_
  clear hcl hfz hvs hsrc
  have HRUN := Lib.hid hrun
  clear hrun
  go_enter Tryd.func53, Tryd.ntmps53
  go_wp2_with (at_builtin; refine Lib.wpList_append_run _ rfl _ _ _ _ rfl _ _ rfl rfl _ _ (HRUN.out _) ?_)
  go_ret
  exact ⟨rfl, rfl⟩
set_option maxHeartbeats 4000000 in
set_option maxRecDepth 100000 in
theorem slices_Insert_simpl_Label_impl_Label.end_grow (base : Option Addr) (n c vb : Nat) (cs vs : List Value) (w : World) (hnc : n ≤ c) (hbig : (n + 1) * 32 ≤ 140737488355328) (hcl : cs.length = n * 2) (hnil : base = none → n = 0) (hcs : ∀ a, base = some a → ∀ j v, cs[j]? = some v → w.cell? (a.add j) = some v) (hvb : w.heap[vb]? = some (.cells vs.toArray 42 (0, 0))) (hvl : vs.length = 2) (h1v : ∀ v ∈ vs, v.oneCell' = true) (hroom : c < n + 1) :
    Calls Tryd.prog 53 #[.slice base n c, .int .i64 n, .slice (some ⟨vb, 0, none⟩) 1 1] w fun e w' => e = .returned (.slice (some ⟨w.heap.size, 0, none⟩) (n + 1) (grownCap w (n + 1) c 42)) ∧
      w' = w.drew.alloc (.cells ((cs ++ vs).toArray ++ Builtin.zeroCells (Value.cells (.agg #[(.string ⟨#[]⟩), (.string ⟨#[]⟩)])) (grownCap w (n + 1) c 42 - (n + 1))) 42) := by
  have hvs : ∀ j v, vs[j]? = some v → w.cell? ⟨vb, j, none⟩ = some v := fun j v hj => by rw [blk_cell hvb]; simpa using hj
  obtain ⟨i0, hi0, hz0, hzs, hzb⟩ := info_parts info42
  have hsrc : Src Tryd.prog i0.size 22 (.slice (some ⟨vb, 0, none⟩) 1 1) 1 vs w := by
    rw [hzs]
    exact Src.ofSlice w Tryd.underlying22 ⟨vb, 0, none⟩ 1 1 vs (by omega) (fun j u hj => by rw [Addr.add_lit, Nat.zero_add]; exact hvs j u hj) h1v
  have hold : (Builtin.firstCells i0.size n (.slice base n c)).run Tryd.prog w.drew = .ok cs.toArray w.drew := by
    rw [hzs]
    cases base with
    | none =>
      have h0 := hnil rfl
      subst h0
      rw [List.length_eq_zero_iff.1 (by omega : cs.length = 0)]
      exact run_firstCells_none w.drew 2 0 0 c
    | some a => exact run_firstCells_some w.drew 2 n a n c cs (by omega) (fun j v hj => hcs a rfl j v hj)
  have hrun : ∀ ty, (Builtin.append_ #[22, 22] ty #[.slice base n c, .slice (some ⟨vb, 0, none⟩) 1 1]).run Tryd.prog w = _ := fun ty =>
    run_append_grow_src w 22 22 ty 42 i0 _ Tryd.underlying22 hi0 hz0 base n c cs hold _ 1 vs hsrc hroom (by omega) (by rw [hzb]; exact growslice_fits hroom hbig)
  clear hold hsrc hvs hcs
  have HRUN := Lib.hid hrun
  clear hrun
  go_enter Tryd.func53, Tryd.ntmps53
  cases base with
  | none =>
    have h0 := hnil rfl
    subst h0
    go_wp2_with (at_builtin; refine Lib.wpList_append_run _ rfl _ _ _ _ rfl _ _ rfl rfl _ _ (HRUN.out _) ?_)
    go_ret
    exact ⟨rfl, rfl⟩
  | some a =>
    obtain ⟨ab, ao, asp⟩ := a
    go_wp2_with (at_builtin; refine Lib.wpList_append_run _ rfl _ _ _ _ rfl _ _ rfl rfl _ _ (HRUN.out _) ?_)
    all_goals (go_ret; exact ⟨rfl, rfl⟩)
set_option maxHeartbeats 4000000 in
set_option maxRecDepth 100000 in
theorem slices_Insert_simpl_Label_impl_Label.mid_room (i : Nat) (g n c vb : Nat) (cur : Array Value) (vs : List Value) (w : World) (hh : w.heap[g]? = some (.cells cur 42 (0, 0))) (hs : cur.size = c * 2) (hnc : n ≤ c) (hcm : c ≤ 9223372036854775807) (hvb : w.heap[vb]? = some (.cells vs.toArray 42 (0, 0))) (hvl : vs.length = 2) (hne : vb ≠ g) (h1 : ∀ v ∈ cur.toList.take (n * 2), v.oneCell' = true) (h1v : ∀ v ∈ vs, v.oneCell' = true) (hi : i < n) (hroom : n + 1 ≤ c) :
    Calls Tryd.prog 53 #[.slice (some ⟨g, 0, none⟩) n c, .int .i64 i, .slice (some ⟨vb, 0, none⟩) 1 1] w fun e w' => e = .returned (.slice (some ⟨g, 0, none⟩) (n + 1) c) ∧ w' = (w.drew.setCells g ((i + 1) * 2) ((cur.toList.take (n * 2)).drop (i * 2))).setCells g (i * 2) vs := by
  have hvs : ∀ j v, vs[j]? = some v → w.cell? ⟨vb, j, none⟩ = some v := fun j v hj => by rw [blk_cell hvb]; simpa using hj
  have hsz : (Tryd.prog.info? 42).map (·.size) = some 2 := by obtain ⟨i0, hi0, h0, h2, h3⟩ := info_parts info42; rw [hi0]; simp [h2]
  have hcl : ∀ j, j < c * 2 → (w.cell? ⟨g, j, none⟩).isSome = true := fun j hj => by rw [blk_cell hh, Array.getElem?_eq_getElem (by omega)]; rfl
  have hfz : ∀ j, w.frozen? ⟨g, j, none⟩ = false := fun j => blk_frozen hh j
  have hz2 : ¬ ((i : Int) = (n : Int)) := by omega
  have hw1 : IntKind.i64.wrap ((i : Int) + 1) = (i : Int) + 1 := by rw [IntKind.wrap_i64]; omega
  have hw2 : IntKind.i64.wrap ((n : Int) + 1) = (n : Int) + 1 := by rw [IntKind.wrap_i64]; omega
  have hin : i ≤ n := by omega
  have htn : ((i : Int) + 1).toNat = i + 1 := by omega
  have htm : ((n : Int) + 1).toNat = n + 1 := by omega
  have hb1 : (0 : Int) ≤ (i : Int) + 1 := by omega
  have hb2 : ¬ (c = i + 1) := by omega
  have hb3 : (i : Int) ≤ (n : Int) + 1 := by omega
  have hb4 : ¬ (c = i) := by omega
  have hb5 : (n : Int) + 1 ≤ (c : Int) := by omega
  have hb6 : (i : Int) + 1 ≤ (n : Int) + 1 := by omega
  have hb7 : ¬ ((c : Int) < (n : Int) + 1) := by omega
  have hb8 : n + 1 - (i + 1) = n - i := by omega
  have hov : ∀ lb cb, (callFunc 86 #[.slice (some ⟨vb, 0, none⟩) 1 1, .slice (some ⟨g, (i + 1) * 2, none⟩) lb cb]).run Tryd.prog w = .ok (.value (.bool false)) w := fun lb cb => by
    rw [run_callFunc_extern Tryd.func86 (by kernel_rfl) (by kernel_rfl) (by kernel_rfl) (e := Extern.SlicesOverlaps.overlaps #[22, 22] #[4]) (by kernel_rfl),
      Lib.run_overlaps_apart w 22 4 42 Tryd.underlying22 2 (fun w => by kernel_rfl) ⟨vb, 0, none⟩ ⟨g, (i + 1) * 2, none⟩ 1 1 lb cb hne 42 42 vs.toArray.size cur.size (by simp [World.shape?, hvb]) (by simp [World.shape?, hh]) (by rw [hs]; omega) (blk_frozen hvb 0) (blk_frozen hvb _)]
    rfl
  have hdl : ((cur.toList.take (n * 2)).drop (i * 2)).length = (n - i) * 2 := by rw [List.length_drop, List.length_take, Array.length_toList]; omega
  have hcp1 : ∀ ty dc sc, (Builtin.copy_ #[22, 22] ty #[.slice (some ⟨g, (i + 1) * 2, none⟩) (n - i) dc, .slice (some ⟨g, i * 2, none⟩) (n + 1 - i) sc]).run Tryd.prog w.drew = .ok (goInt (Nat.min (n + 1 - i) (n - i))) (w.drew.setCells g ((i + 1) * 2) ((cur.toList.take (n * 2)).drop (i * 2))) := fun ty dc sc =>
    run_copy_k w.drew 22 22 ty 42 2 g ((i + 1) * 2) (n - i) dc ⟨g, i * 2, none⟩ (n + 1 - i) sc _ Tryd.underlying22 hsz (by rw [hdl]; simp only [Nat.min_def]; split <;> omega)
      (fun j v hj => by rw [Addr.add_lit]; rw [List.getElem?_drop] at hj; have hjl := (List.getElem?_eq_some_iff.1 hj).1; rw [List.length_take] at hjl; rw [List.getElem?_take, if_pos (by omega), Array.getElem?_toList] at hj; exact (blk_cell hh _).trans hj)
      (fun j hj => hcl _ (by rw [hdl] at hj; omega)) (fun j hj => hfz _) (fun v hv => h1 v (List.mem_of_mem_drop hv))
  obtain ⟨W1, hW1⟩ : ∃ W1, W1 = w.drew.setCells g ((i + 1) * 2) ((cur.toList.take (n * 2)).drop (i * 2)) := ⟨_, rfl⟩
  have hsp1 : ∀ k, k < c * 2 → (W1.cell? ⟨g, k, none⟩).isSome = true := fun k hk => by
    rw [hW1]
    exact isSome_setCells g ((cur.toList.take (n * 2)).drop (i * 2)) ((i + 1) * 2) w.drew (fun j hj => hcl _ (by rw [hdl] at hj; omega)) _ (hcl k hk)
  have mixed : Tryd.prog.follows Departure.mixedOrders = true := by kernel_rfl
  have hcp2 : ∀ (W : World), (∀ x, W.cell? x = W1.cell? x) → (∀ x, W.frozen? x = W1.frozen? x) → ∀ ty dc, (Builtin.copy_ #[22, 22] ty #[.slice (some ⟨g, i * 2, none⟩) (n + 1 - i) dc, .slice (some ⟨vb, 0, none⟩) 1 1]).run Tryd.prog W = .ok (goInt (Nat.min 1 (n + 1 - i))) (W.setCells g (i * 2) vs) := fun W hWc hWf ty dc =>
    run_copy_k W 22 22 ty 42 2 g (i * 2) (n + 1 - i) dc ⟨vb, 0, none⟩ 1 1 vs Tryd.underlying22 hsz (by rw [hvl]; simp only [Nat.min_def]; split <;> omega)
      (fun j v hj => by
        rw [Addr.add_lit, Nat.zero_add, hWc, hW1, World.cell?_setCells_out g _ _ _ _ (fun h _ => absurd h hne)]
        exact hvs j v hj)
      (fun j hj => by rw [hWc]; exact hsp1 _ (by omega)) (fun j hj => by rw [hWf, hW1, World.frozen?_setCells]; exact hfz _) h1v
  rw [← hW1] at hcp1
  clear hcl hfz hvs hsp1
  go_enter Tryd.func53, Tryd.ntmps53
  go_wp2_with (simp only [hov])
  go_region_law_o (refine step_copy_runI rfl _ _ 22 22 rfl _ _ (by simp [Act.eval, Act.put]) (by simp [Act.eval, Act.put]) (hcp1 _ _ _) ?_)
  go_wp2_with (at_builtin; refine wpList_copy_runI _ rfl _ _ 22 22 rfl _ _ rfl rfl (hcp2 _ (fun _ => rfl) (fun _ => rfl) _ _) ?_)
  go_ret
  first | exact ⟨rfl, rfl⟩ | exact ⟨rfl, by rw [hW1]⟩
set_option maxHeartbeats 4000000 in
set_option maxRecDepth 100000 in
theorem slices_Insert_simpl_Label_impl_Label.mid_grow (i : Nat) (g n c vb : Nat) (cur : Array Value) (vs : List Value) (w : World) (hh : w.heap[g]? = some (.cells cur 42 (0, 0))) (hs : cur.size = c * 2) (hnc : n ≤ c) (hcm : c ≤ 9223372036854775807) (hvb : w.heap[vb]? = some (.cells vs.toArray 42 (0, 0))) (hvl : vs.length = 2) (hne : vb ≠ g) (h1 : ∀ v ∈ cur.toList.take (n * 2), v.oneCell' = true) (h1v : ∀ v ∈ vs, v.oneCell' = true) (hi : i < n) (hroom : c < n + 1) (hbig : (n + 1) * 32 ≤ 140737488355328) :
    Calls Tryd.prog 53 #[.slice (some ⟨g, 0, none⟩) n c, .int .i64 i, .slice (some ⟨vb, 0, none⟩) 1 1] w fun e w' => ∃ C, n + 1 ≤ C ∧ C ≤ maxLen ∧ e = .returned (.slice (some ⟨w.heap.size, 0, none⟩) (n + 1) C) ∧ w' = ((w.drew.alloc (.cells ((cur.toList.take (i * 2)).toArray ++ Builtin.zeroCells (Value.cells (.agg #[(.string ⟨#[]⟩), (.string ⟨#[]⟩)])) (n + 1 - i) ++ Builtin.zeroCells (Value.cells (.agg #[(.string ⟨#[]⟩), (.string ⟨#[]⟩)])) (C - (n + 1))) 42)).setCells w.heap.size (i * 2) vs).drew.setCells w.heap.size ((i + 1) * 2) ((cur.toList.take (n * 2)).drop (i * 2)) := by
  have hvs : ∀ j v, vs[j]? = some v → w.cell? ⟨vb, j, none⟩ = some v := fun j v hj => by rw [blk_cell hvb]; simpa using hj
  have hsz : (Tryd.prog.info? 42).map (·.size) = some 2 := by obtain ⟨i0, hi0, h0, h2, h3⟩ := info_parts info42; rw [hi0]; simp [h2]
  have hcl : ∀ j, j < c * 2 → (w.cell? ⟨g, j, none⟩).isSome = true := fun j hj => by rw [blk_cell hh, Array.getElem?_eq_getElem (by omega)]; rfl
  have hfz : ∀ j, w.frozen? ⟨g, j, none⟩ = false := fun j => blk_frozen hh j
  have hz2 : ¬ ((i : Int) = (n : Int)) := by omega
  have hw1 : IntKind.i64.wrap ((i : Int) + 1) = (i : Int) + 1 := by rw [IntKind.wrap_i64]; omega
  have hw2 : IntKind.i64.wrap ((n : Int) + 1) = (n : Int) + 1 := by rw [IntKind.wrap_i64]; omega
  have hin : i ≤ n := by omega
  have htn : ((i : Int) + 1).toNat = i + 1 := by omega
  have htm : ((n : Int) + 1).toNat = n + 1 := by omega
  obtain ⟨i0, hi0, hz0, hzs, hzb⟩ := info_parts info42
  have hgm := grownCap_le_maxLen w (n + 1) c 42 (by unfold maxLen; omega)
  have hgg := grownCap_ge w (n + 1) c 42
  have hold : (Builtin.firstCells i0.size i (.slice (some ⟨g, 0, none⟩) i c)).run Tryd.prog w.drew = .ok (cur.toList.take (i * 2)).toArray w.drew := by
    rw [hzs]
    exact run_firstCells_some w.drew 2 i ⟨g, 0, none⟩ i c (cur.toList.take (i * 2)) (by rw [List.length_take, Array.length_toList]; omega) (fun j v hj => by
      rw [Addr.add_lit, Nat.zero_add]
      have hjl := (List.getElem?_eq_some_iff.1 hj).1
      rw [List.length_take] at hjl
      rw [List.getElem?_take, if_pos (by omega), Array.getElem?_toList] at hj
      exact (blk_cell hh _).trans hj)
  have hrun : ∀ ty, (Builtin.append_ #[22, 3] ty #[.slice (some ⟨g, 0, none⟩) i c, .int .i64 ((n : Int) + 1 - i)]).run Tryd.prog w = .ok (.slice (some ⟨w.heap.size, 0, none⟩) (n + 1) (grownCap w (n + 1) c 42)) (w.drew.alloc (.cells ((cur.toList.take (i * 2)).toArray ++ Builtin.zeroCells (Value.cells (.agg #[(.string ⟨#[]⟩), (.string ⟨#[]⟩)])) (n + 1 - i) ++ Builtin.zeroCells (Value.cells (.agg #[(.string ⟨#[]⟩), (.string ⟨#[]⟩)])) (grownCap w (n + 1) c 42 - (n + 1))) 42)) := fun ty => by
    have hk : ((n : Int) + 1 - i) = ((n + 1 - i : Nat) : Int) := by omega
    have hk2 : i + (n + 1 - i) = n + 1 := by omega
    have h_ := run_append_grow_zeros w 22 3 ty 42 i0 _ .i64 Tryd.underlying22 Tryd.underlying3 hi0 hz0 (some ⟨g, 0, none⟩) i c _ hold (n + 1 - i) (by omega) (by omega) (by omega) (by omega) (by rw [hzb]; omega) (by rw [hzb]; exact growslice_fits (by omega) (by omega))
    rw [hk2] at h_
    rw [hk]
    exact h_
  obtain ⟨C, hC⟩ : ∃ C, grownCap w (n + 1) c 42 = C := ⟨_, rfl⟩
  rw [hC] at hgm hgg hrun
  obtain ⟨W2, hW2⟩ : ∃ W2, W2 = w.drew.alloc (.cells ((cur.toList.take (i * 2)).toArray ++ Builtin.zeroCells (Value.cells (.agg #[(.string ⟨#[]⟩), (.string ⟨#[]⟩)])) (n + 1 - i) ++ Builtin.zeroCells (Value.cells (.agg #[(.string ⟨#[]⟩), (.string ⟨#[]⟩)])) (C - (n + 1))) 42) := ⟨_, rfl⟩
  rw [← hW2] at hrun
  have hzc : ∀ k, (Builtin.zeroCells (Value.cells (.agg #[(.string ⟨#[]⟩), (.string ⟨#[]⟩)])) k).size = k * 2 := fun k => by simp only [Builtin.zeroCells, Array.size_map, Array.size_range]; rfl
  obtain ⟨b2, hb2⟩ : ∃ b2, b2 = ((cur.toList.take (i * 2)).toArray ++ Builtin.zeroCells (Value.cells (.agg #[(.string ⟨#[]⟩), (.string ⟨#[]⟩)])) (n + 1 - i) ++ Builtin.zeroCells (Value.cells (.agg #[(.string ⟨#[]⟩), (.string ⟨#[]⟩)])) (C - (n + 1))) := ⟨_, rfl⟩
  have hb2s : b2.size = C * 2 := by rw [hb2]; simp only [Array.size_append, hzc, List.size_toArray, List.length_take, Array.length_toList]; omega
  have hblk : W2.heap[w.heap.size]? = some (.cells b2 42 (0, 0)) := by rw [hW2, hb2]; exact heap_alloc_new w.drew _
  have hglt : g < w.heap.size := blk_lt hh
  have hvlt : vb < w.heap.size := blk_lt hvb
  have hold2 : ∀ k x, k < w.heap.size → W2.cell? ⟨k, x, none⟩ = w.cell? ⟨k, x, none⟩ := fun k x hk => by
    have hb_ : Below w.heap.size w W2 := by rw [hW2]; exact below_alloc (below_drew1 (Below.refl w.heap.size w)) _
    simp only [World.cell?, hb_.block k hk]
  have hcl2 : ∀ j, j < C * 2 → (W2.cell? ⟨w.heap.size, j, none⟩).isSome = true := fun j hj => by rw [blk_cell hblk, Array.getElem?_eq_getElem (by omega)]; rfl
  have hfz2 : ∀ j, W2.frozen? ⟨w.heap.size, j, none⟩ = false := fun j => blk_frozen hblk j
  have hcp1 : ∀ ty dc, (Builtin.copy_ #[22, 22] ty #[.slice (some ⟨w.heap.size, i * 2, none⟩) (n + 1 - i) dc, .slice (some ⟨vb, 0, none⟩) 1 1]).run Tryd.prog W2 = .ok (goInt (Nat.min 1 (n + 1 - i))) (W2.setCells w.heap.size (i * 2) vs) := fun ty dc =>
    run_copy_k W2 22 22 ty 42 2 w.heap.size (i * 2) (n + 1 - i) dc ⟨vb, 0, none⟩ 1 1 vs Tryd.underlying22 hsz (by rw [hvl]; simp only [Nat.min_def]; split <;> omega)
      (fun j v hj => by rw [Addr.add_lit, Nat.zero_add, hold2 _ _ hvlt]; exact hvs j v hj) (fun j hj => hcl2 _ (by omega)) (fun j hj => hfz2 _) h1v
  obtain ⟨W3, hW3⟩ : ∃ W3, W3 = W2.setCells w.heap.size (i * 2) vs := ⟨_, rfl⟩
  rw [← hW3] at hcp1
  have hsp3 : ∀ k, k < C * 2 → (W3.cell? ⟨w.heap.size, k, none⟩).isSome = true := fun k hk => by
    rw [hW3]
    exact isSome_setCells w.heap.size vs (i * 2) W2 (fun j hj => hcl2 _ (by omega)) _ (hcl2 k hk)
  have hdl : (((cur.toList.take (n * 2)).drop (i * 2))).length = (n - i) * 2 := by rw [List.length_drop, List.length_take, Array.length_toList]; omega
  have hcp2 : ∀ ty dc sc, (Builtin.copy_ #[22, 22] ty #[.slice (some ⟨w.heap.size, (i + 1) * 2, none⟩) (n - i) dc, .slice (some ⟨g, i * 2, none⟩) (n - i) sc]).run Tryd.prog W3.drew = .ok (goInt (Nat.min (n - i) (n - i))) (W3.drew.setCells w.heap.size ((i + 1) * 2) ((cur.toList.take (n * 2)).drop (i * 2))) := fun ty dc sc =>
    run_copy_k W3.drew 22 22 ty 42 2 w.heap.size ((i + 1) * 2) (n - i) dc ⟨g, i * 2, none⟩ (n - i) sc _ Tryd.underlying22 hsz (by rw [hdl]; simp only [Nat.min_def]; split <;> omega)
      (fun j v hj => by
        rw [Addr.add_lit]
        show W3.cell? _ = _
        rw [hW3, World.cell?_setCells_out w.heap.size _ _ _ _ (fun h _ => absurd h (by show g ≠ w.heap.size; omega)), hold2 _ _ hglt]
        rw [List.getElem?_drop] at hj
        have hjl := (List.getElem?_eq_some_iff.1 hj).1
        rw [List.length_take] at hjl
        rw [List.getElem?_take, if_pos (by omega), Array.getElem?_toList] at hj
        exact (blk_cell hh _).trans hj)
      (fun j hj => hsp3 _ (by rw [hdl] at hj; omega)) (fun j hj => by show W3.frozen? _ = _; rw [hW3, World.frozen?_setCells]; exact hfz2 _) (fun v hv => h1 v (List.mem_of_mem_drop hv))
  have mixed : Tryd.prog.follows Departure.mixedOrders = true := by kernel_rfl
  have hq1 : (0 : Int) ≤ (i : Int) + 1 := by omega
  have hq2 : ¬ (C = i + 1) := by omega
  have hq3 : (i : Int) ≤ (n : Int) + 1 := by omega
  have hq4 : ¬ (c = i) := by omega
  have hq5 : ¬ (C = i) := by omega
  have hq6 : (i : Int) + 1 ≤ (n : Int) + 1 := by omega
  have hq7 : (c : Int) < (n : Int) + 1 := by omega
  have hq8 : n + 1 - (i + 1) = n - i := by omega
  have hq9 : IntKind.i64.wrap ((n : Int) + 1 - i) = (n : Int) + 1 - i := by rw [IntKind.wrap_i64]; omega
  have hq10 : i ≤ c := by omega
  have hq11 : (i : Int) ≤ (c : Int) := by omega
  have HW2 := Lib.hid hW2
  have HW3 := Lib.hid hW3
  clear hW2 hW3 hb2 hC hblk hdl hzc hb2s
  clear hcl hfz hvs hcl2 hfz2 hsp3 hold hold2
  go_enter Tryd.func53, Tryd.ntmps53
  go_wp2_with (first | (at_builtin; refine Lib.wpList_append_run _ rfl _ _ _ _ rfl _ _ rfl rfl _ _ (hrun _) ?_) | (at_builtin; refine wpList_copy_runI _ rfl _ _ 22 22 rfl _ _ rfl rfl (hcp1 _ _) ?_))
  try go_region_law_o (refine step_copy_runI rfl _ _ 22 22 rfl _ _ (by simp [Act.eval, Act.put]) (by simp [Act.eval, Act.put]) (hcp2 _ _ _) ?_)
  go_wp2
  go_ret
  exact ⟨C, by omega, hgm, rfl, by first | rfl | rw [HW3.out, HW2.out]⟩
set_option maxHeartbeats 1000000 in
theorem slices_Insert_simpl_Label_impl_Label.calls {α : Type} (d : Kd α) (hd : d.sz = 2) (u : Value) (l0 : List α) (i : Nat) (hi : i ≤ l0.length) (x : α) (vs : List Value) (vb : Nat) (ok okp : Nat → Prop) (w0 w : World) (hB : Below w0.heap.size w0 w) (hR : d.R 42 w w0.heap.size ok u l0)
    (hvb : w.heap[vb]? = some (.cells vs.toArray 42 (0, 0))) (hM : d.M w w0.heap.size okp x vs) (hokp : ∀ k, okp k → ok k ∧ some k ≠ u.ownBlock) (hfresh : ∀ k, w.heap.size ≤ k → ok k) (hne : some vb ≠ u.ownBlock) (hbig : (l0.length + 1) * 32 ≤ 140737488355328) :
    Calls Tryd.prog 53 #[u, .int .i64 i, .slice (some ⟨vb, 0, none⟩) 1 1] w fun e w' => ∃ v, e = .returned v ∧ d.R 42 w' w0.heap.size ok v (l0.take i ++ x :: l0.drop i) ∧ Below w0.heap.size w0 w' ∧ Kept w w' (fun k => some k = u.ownBlock) := by
  have hvl : vs.length = 2 := by rw [← hd]; exact d.K_len (d.K_of_M hM)
  have h1v := d.K_one (d.K_of_M hM)
  have hMx := d.M_mono hokp hM
  have hzl : (l0.take i ++ x :: l0.drop i).length = l0.length + 1 := by simp; omega
  have hsw := hB.size
  obtain ⟨h0, inner, ⟨hl, hv⟩, hr⟩ := hR
  have hrp := reps_put hr i hi hMx (d.K_len (d.K_of_M hM))
  rcases hv with ⟨rfl, hz⟩ | ⟨g, c, cur, rfl, hb, hh, hnc, hcm, hs, hin⟩
  · obtain rfl : l0 = [] := List.eq_nil_of_length_eq_zero (by omega)
    obtain rfl : i = 0 := by simpa using hi
    have hinn : inner = [] := List.eq_nil_of_length_eq_zero (by rw [hl]; simp)
    refine (slices_Insert_simpl_Label_impl_Label.end_grow none 0 0 vb [] vs w (by omega) (by simp at hbig ⊢; try omega) (by simp) (fun _ => rfl) (by intro a ha; cases ha) hvb hvl h1v (by omega)).mono ?_
    rintro e w' ⟨rfl, rfl⟩
    have hgm := grownCap_le_maxLen w (0 + 1) 0 42 (by unfold maxLen; omega)
    have hgg := grownCap_ge w (0 + 1) 0 42
    generalize hC : grownCap w (0 + 1) 0 42 = C at hgm hgg
    have hb_ : Below w.heap.size w (w.drew.alloc (.cells (([] ++ vs).toArray ++ Builtin.zeroCells (Value.cells (.agg #[(.string ⟨#[]⟩), (.string ⟨#[]⟩)])) (C - (0 + 1))) 42)) := below_alloc (below_drew1 (Below.refl w.heap.size w)) _
    have h_ := R_put (w' := w.drew.alloc (.cells (([] ++ vs).toArray ++ Builtin.zeroCells (Value.cells (.agg #[(.string ⟨#[]⟩), (.string ⟨#[]⟩)])) (C - (0 + 1))) 42)) (g' := w.heap.size) (C := C) hrp hsw (heap_alloc_new w.drew _) (by rw [hzl]; simp at hgg ⊢; omega) hgm
      (by rw [hd]; simp only [Array.size_append, List.size_toArray, List.nil_append, hvl, Builtin.zeroCells, Array.size_map, Array.size_range]; have hzs : (Value.cells (.agg #[(.string ⟨#[]⟩), (.string ⟨#[]⟩)])).size = 2 := rfl; rw [hzs]; omega)
      (by rw [hzl, hinn, hd]; simp [← hvl])
      (hfresh _ (Nat.le_refl _)) (.inr (Nat.le_refl _)) (fun k hk _ => hb_.block k hk)
    rw [hzl] at h_
    exact ⟨_, rfl, h_, below_then hB hsw hb_, Kept.of_below hb_ _⟩
  · rw [hd] at hs hin
    have hgw := blk_lt hh
    have hcm2 : c ≤ 9223372036854775807 := by unfold maxLen at hcm; omega
    have hgo : ok g := h0 g rfl
    have hvg : vb ≠ g := fun e => hne (by rw [e]; rfl)
    have h1 : ∀ v ∈ (cur.toList.take (l0.length * 2)), v.oneCell' = true := by
      intro v hv
      rw [hin] at hv
      obtain ⟨j, hj, rfl⟩ := List.getElem_of_mem hv
      have hj2 : j / 2 < l0.length := by rw [hl] at hj; rw [hd] at hj; exact Nat.div_lt_of_lt_mul (by omega)
      have hq := hr.2 (j / 2) _ (List.getElem?_eq_getElem hj2)
      refine d.K_one (d.K_of_M hq) _ ?_
      rw [hd]
      refine List.mem_iff_getElem?.2 ⟨j % 2, ?_⟩
      rw [List.getElem?_take, if_pos (Nat.mod_lt _ (by omega)), List.getElem?_drop, show j / 2 * 2 + j % 2 = j by omega]
      exact List.getElem?_eq_getElem hj
    have hlenc : cur.toList.length = c * 2 := by rw [Array.length_toList, hs]
    have hcl : l0.length * 2 ≤ c * 2 := Nat.mul_le_mul_right _ hnc
    by_cases hie : i = l0.length
    · obtain rfl := hie
      by_cases hroom : l0.length + 1 ≤ c
      · refine (slices_Insert_simpl_Label_impl_Label.end_room g l0.length c vb cur vs w hh hs hnc hcm2 hvb hvl hvg h1 h1v hroom).mono ?_
        rintro e w' ⟨rfl, rfl⟩
        obtain ⟨cur2, h2, h2s, h2l⟩ := setCells_row vs (l0.length * 2) w cur hh (by rw [hvl, hs]; omega)
        have h_ := R_put (w := w) hrp hb h2 (by rw [hzl]; exact hroom) hcm (by rw [h2s, hs, hd]) (by rw [hzl, hd, h2l]; exact put_end' hin hvl (by omega)) hgo (.inl rfl) (fun k hk hn => setCells_far vs _ k (fun e => hn (by rw [e]; rfl)))
        rw [hzl] at h_
        exact ⟨_, rfl, h_, below_setCells hB hb vs _, ⟨by rw [size_setCells]; exact Nat.le_refl _, fun k hk hn => setCells_far vs _ k (fun e => hn (by rw [e]; rfl))⟩⟩
      · refine (slices_Insert_simpl_Label_impl_Label.end_grow (some ⟨g, 0, none⟩) l0.length c vb (cur.toList.take (l0.length * 2)) vs w hnc hbig (by rw [List.length_take]; omega) (by intro h; cases h) (fun a ha j v hj => by
          cases ha
          rw [Addr.add_lit, Nat.zero_add]
          have hjl := (List.getElem?_eq_some_iff.1 hj).1
          rw [List.length_take] at hjl
          rw [List.getElem?_take, if_pos (by omega), Array.getElem?_toList] at hj
          exact (blk_cell hh _).trans hj) hvb hvl h1v (by omega)).mono ?_
        rintro e w' ⟨rfl, rfl⟩
        have hgm := grownCap_le_maxLen w (l0.length + 1) c 42 (by unfold maxLen; omega)
        have hgg := grownCap_ge w (l0.length + 1) c 42
        generalize hC : grownCap w (l0.length + 1) c 42 = C at hgm hgg
        have hb_ : Below w.heap.size w (w.drew.alloc (.cells ((cur.toList.take (l0.length * 2) ++ vs).toArray ++ Builtin.zeroCells (Value.cells (.agg #[(.string ⟨#[]⟩), (.string ⟨#[]⟩)])) (C - (l0.length + 1))) 42)) := below_alloc (below_drew1 (Below.refl w.heap.size w)) _
        have h_ := R_put (w := w) (w' := w.drew.alloc (.cells ((cur.toList.take (l0.length * 2) ++ vs).toArray ++ Builtin.zeroCells (Value.cells (.agg #[(.string ⟨#[]⟩), (.string ⟨#[]⟩)])) (C - (l0.length + 1))) 42)) (g' := w.heap.size) (C := C) hrp hsw (heap_alloc_new w.drew _) (by rw [hzl]; exact hgg) hgm
          (by rw [hd]; simp only [Array.size_append, List.size_toArray, List.length_append, List.length_take, hlenc, hvl, Builtin.zeroCells, Array.size_map, Array.size_range]; have hzs : (Value.cells (.agg #[(.string ⟨#[]⟩), (.string ⟨#[]⟩)])).size = 2 := rfl; rw [hzs]; omega)
          (by
            rw [hzl, hd, ← hin]
            have hl2 : (cur.toList.take (l0.length * 2) ++ vs).length = (l0.length + 1) * 2 := by rw [List.length_append, List.length_take, hvl]; omega
            rw [Array.toList_append, List.take_append_of_le_length (by rw [List.toList_toArray]; omega), List.toList_toArray]
            have e1 := List.take_of_length_le (l := cur.toList.take (l0.length * 2) ++ vs) (i := (l0.length + 1) * 2) (by omega)
            have e2 : (cur.toList.take (l0.length * 2)).take (l0.length * 2) = cur.toList.take (l0.length * 2) := by rw [List.take_take, Nat.min_self]
            have e3 : (cur.toList.take (l0.length * 2)).drop (l0.length * 2) = [] := List.drop_of_length_le (by rw [List.length_take]; omega)
            rw [e1, e2, e3, List.append_nil])
          (hfresh _ (Nat.le_refl _)) (.inr (Nat.le_refl _)) (fun k hk _ => hb_.block k hk)
        rw [hzl] at h_
        exact ⟨_, rfl, h_, below_then hB hsw hb_, Kept.of_below hb_ _⟩
    · by_cases hroom : l0.length + 1 ≤ c
      · refine (slices_Insert_simpl_Label_impl_Label.mid_room i g l0.length c vb cur vs w hh hs hnc hcm2 hvb hvl hvg h1 h1v (by omega) hroom).mono ?_
        rintro e w' ⟨rfl, rfl⟩
        have hml := mid_len (cur := cur.toList) (m := 2) hi (by omega)
        obtain ⟨cur2, h2, h2s, h2l⟩ := setCells_row ((cur.toList.take (l0.length * 2)).drop (i * 2)) ((i + 1) * 2) w.drew cur hh (by rw [hs]; omega)
        obtain ⟨cur3, h3, h3s, h3l⟩ := setCells_row vs (i * 2) _ cur2 h2 (by rw [hvl, h2s, hs]; omega)
        have h_ := R_put (w := w) hrp hb h3 (by rw [hzl]; exact hroom) hcm (by rw [h3s, h2s, hs, hd]) (by rw [hzl, hd, h3l, h2l]; exact put_mid' hi hin hvl (by omega)) hgo (.inl rfl) (fun k hk hn => (setCells_far vs _ k (fun e => hn (by rw [e]; rfl))).trans (setCells_far _ _ k (fun e => hn (by rw [e]; rfl))))
        rw [hzl] at h_
        exact ⟨_, rfl, h_, below_setCells (below_setCells (below_drew1 hB) hb _ _) hb vs _, ⟨by rw [size_setCells, size_setCells]; exact Nat.le_refl _, fun k hk hn => (setCells_far vs _ k (fun e => hn (by rw [e]; rfl))).trans (setCells_far _ _ k (fun e => hn (by rw [e]; rfl)))⟩⟩
      · refine (slices_Insert_simpl_Label_impl_Label.mid_grow i g l0.length c vb cur vs w hh hs hnc hcm2 hvb hvl hvg h1 h1v (by omega) (by omega) hbig).mono ?_
        rintro e w' ⟨C, hgg, hgm, rfl, rfl⟩
        have hml := mid_len (cur := cur.toList) (m := 2) hi (by omega)
        generalize hbk : ((cur.toList.take (i * 2)).toArray ++ Builtin.zeroCells (Value.cells (.agg #[(.string ⟨#[]⟩), (.string ⟨#[]⟩)])) (l0.length + 1 - i) ++ Builtin.zeroCells (Value.cells (.agg #[(.string ⟨#[]⟩), (.string ⟨#[]⟩)])) (C - (l0.length + 1))) = b2
        have hzc : ∀ k, (Builtin.zeroCells (Value.cells (.agg #[(.string ⟨#[]⟩), (.string ⟨#[]⟩)])) k).size = k * 2 := fun k => by simp only [Builtin.zeroCells, Array.size_map, Array.size_range]; rfl
        have hb2s : b2.size = C * 2 := by rw [← hbk]; simp only [Array.size_append, hzc, List.size_toArray, List.length_take, hlenc]; omega
        have hbi : b2.toList.take (i * 2) = cur.toList.take (i * 2) := by
          rw [← hbk, Array.toList_append, Array.toList_append, List.toList_toArray, List.append_assoc, List.take_append_of_le_length (by rw [List.length_take]; omega), List.take_take, Nat.min_self]
        have hb_ : Below w.heap.size w (w.drew.alloc (.cells b2 42)) := below_alloc (below_drew1 (Below.refl w.heap.size w)) _
        obtain ⟨cur2, h2, h2s, h2l⟩ := setCells_row vs (i * 2) (w.drew.alloc (.cells b2 42)) b2 (heap_alloc_new w.drew _) (by rw [hvl, hb2s]; omega)
        obtain ⟨cur3, h3, h3s, h3l⟩ := setCells_row ((cur.toList.take (l0.length * 2)).drop (i * 2)) ((i + 1) * 2) ((w.drew.alloc (.cells b2 42)).setCells w.heap.size (i * 2) vs).drew cur2 h2 (by rw [h2s, hb2s]; omega)
        have hfar : ∀ k, k < w.heap.size → (((w.drew.alloc (.cells b2 42)).setCells w.heap.size (i * 2) vs).drew.setCells w.heap.size ((i + 1) * 2) ((cur.toList.take (l0.length * 2)).drop (i * 2))).heap[k]? = w.heap[k]? := fun k hk => (setCells_far _ _ k (by omega)).trans ((setCells_far vs _ k (by omega)).trans (hb_.block k hk))
        have h_ := R_put (w := w) hrp hsw h3 (by rw [hzl]; exact hgg) hgm (by rw [h3s, h2s, hb2s, hd]) (by rw [hzl, hd, h3l, h2l]; exact put_grow' hi hin hvl (by omega) (by have h_ : b2.toList.length = b2.size := Array.length_toList; omega) hbi) (hfresh _ (Nat.le_refl _)) (.inr (Nat.le_refl _)) (fun k hk _ => hfar k hk)
        rw [hzl] at h_
        exact ⟨_, rfl, h_, below_setCells (below_drew1 (below_setCells (below_then hB hsw hb_) hsw vs _)) hsw _ _, ⟨by rw [size_setCells]; show w.heap.size ≤ (World.setCells _ _ _ _).heap.size; rw [size_setCells]; exact hb_.size, fun k hk _ => hfar k hk⟩⟩

end Go.Proofs.YtpjpnppoejnafaaDoor.G
