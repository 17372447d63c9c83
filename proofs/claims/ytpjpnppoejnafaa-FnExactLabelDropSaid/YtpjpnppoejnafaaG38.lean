-- Laid by wip/g/gprint.py out of the translation, by the kit's print program. Lean checks it.
import Derived.Test.YtpjpnppoejnafaaG0
import Derived.Test.YtpjpnppoejnafaaG72
namespace Go.Proofs.Ytpjpnppoejnafaa.G
open Go.RowKit Go.Proofs.YtpjpnppoejnafaaW.PrintWords Go.Proofs.YtpjpnppoejnafaaW.PrintLast Go.Proofs.YtpjpnppoejnafaaW.PrintMore
attribute [local go_sem] max2_int min2_int max_two min_two max_three min_three max_four min_four   -- for this text's walks alone
set_option linter.unusedVariables false
set_option linter.unusedSimpArgs false

/-! ### slices_DeleteFunc_simpl_Label_impl_Label: function 38 -/
set_option maxHeartbeats 1000000 in
set_option maxRecDepth 100000 in
theorem slices_DeleteFunc_simpl_Label_impl_Label.calls {α : Type} (d : Kd α) (hd : d.sz = 2) (kf : Nat) (hkf : ∀ (zs : Array Value) (W : World), (callFunc kf zs).run Try.prog W = .ok (.enter kf zs) W) (caps : Array Value) (p : α → Option Bool) (u : Value) (l0 r : List α) (ok : Nat → Prop) (w0 w : World) (hB : Below w0.heap.size w0 w) (hR : d.R 56 w w0.heap.size ok u l0)
    (hf : ∀ (x : α) (cs : List Value) (b : Bool) (W : World), x ∈ l0 → p x = some b → d.K W x cs → Kept w W (fun k => some k = u.ownBlock) → Calls Try.prog kf (#[(.agg (cs).toArray)] ++ caps) W fun e w' => e = .returned (.bool b) ∧ Below W.heap.size W w') (h : delO p l0 = some r) :
    Calls Try.prog 38 #[u, .func (.func kf) #[] caps] w fun e w' => ∃ v, e = .returned v ∧ d.R 56 w' w0.heap.size ok v r ∧ Below w0.heap.size w0 w' ∧ Kept w w' (fun k => some k = u.ownBlock) ∧ (v.ownBlock = none ∨ v.ownBlock = u.ownBlock) := by
  obtain ⟨i, hi, hcase⟩ := delO_idx l0 0 r h
  obtain ⟨A0, c, rfl, hle, hC⟩ := Kd.R_reads hR
  have hm : l0.length ≤ 9223372036854775807 := hC.2.1
  have HC := Lib.hid hC
  have HR := Lib.hid hR
  have HF := Lib.hid hf
  have HI := Lib.hid hi
  have HD := Lib.hid hd
  have HB0 := Lib.hid hB
  have HL := Lib.hid hle
  clear hR hf h hi hd hB hC
  rcases hcase with ⟨rfl, rfl⟩ | ⟨m, rfl, hml, r2, h2, rfl⟩
  · go_enter Try.func38, Try.ntmps38
    go_wp2_with fail
    refine (slices_IndexFunc_simpl_Label_impl_Label.calls d HD.out kf hkf caps p A0 c r _ _ HC.out HL.out (fun x cs b W hx hp hk hb => HF.out x cs b W hx hp hk (Kept.of_below hb _)) HI.out).mono ?_
    rintro e w1 ⟨rfl, hb1⟩
    have HB1 := Lib.hid hb1
    clear hb1
    go_wp2
    go_ret
    exact ⟨_, rfl, Kd.R_below HR.out HB1.out, below_then HB0.out HB0.out.size HB1.out, Kept.of_below HB1.out _, .inr rfl⟩
  · obtain ⟨g, cur, rfl, _, hg, hh, _, hcm, hs, hok, hreps⟩ := R_block HR.out (by omega)
    simp only [Nat.zero_add] at HI
    have hcle : c ≤ 9223372036854775807 := by unfold maxLen at hcm; omega
    have HH := Lib.hid hh
    have HS := Lib.hid hs
    have HG := Lib.hid hg
    have HOK := Lib.hid hok
    have HRP := Lib.hid hreps
    have H2 := Lib.hid h2
    have HCM := Lib.hid hcm
    clear hh hs hg hok hreps h2 hcm
    have hnm : ((m : Int) == -1) = false := by rw [beq_eq_false_iff_ne]; omega
    go_enter Try.func38, Try.ntmps38
    go_wp2_with fail
    refine (slices_IndexFunc_simpl_Label_impl_Label.calls d HD.out kf hkf caps p _ c l0 _ _ HC.out HL.out (fun x cs b W hx hp hk hb => HF.out x cs b W hx hp hk (Kept.of_below hb _)) HI.out).mono ?_
    rintro e w1 ⟨rfl, hb1⟩
    have HST := Lib.hid (del_start HG.out HH.out HRP.out HB0.out hb1 hml H2.out rfl)
    clear hb1
    go_wp2
    go_loopw [5, 6] (fun i j wr => ∃ a k : Nat, i = .int .i64 a ∧ j = .int .i64 k ∧ a < k ∧ k ≤ l0.length ∧ Hid (DelSt d 56 p l0 (l0.take m ++ r2) ok w0 w g cur a k wr)) (fun _ j _ => l0.length - (intOf j).toNat)
    case atStart => exact ⟨m, m + 1, rfl, by go_num, by omega, by omega, HST⟩
    case round =>
      obtain ⟨a, k, rfl, rfl, hak, hkl, HE⟩ := hrel
      by_cases hlt : k < l0.length
      · obtain ⟨cs, b, hcs, hp, hM, hcell, hfz, hsome⟩ := del_read HH.out HS.out HL.out HRP.out HE.out hlt
        have HM := Lib.hid hM
        have hone := d.K_one (d.K_of_M hM)
        have HP := Lib.hid hp
        have hlen := hcs
        rw [HD.out] at hcs hcell hsome
        obtain ⟨y0, y1, rfl⟩ : ∃ y0 y1, cs = [y0, y1] := by match cs, hcs with | [y0, y1], _ => exact ⟨y0, y1, rfl⟩
        have HLEN := Lib.hid hlen
        clear hM hp hcs hlen
        have hal : a * 2 + 2 ≤ c * 2 := by omega
        have d0 := hcell 0 y0 rfl
        have t0 := fun (a : Addr) (W : World) (q : Mode) => run_store Try.prog W a y0 q (hone y0 (by simp))
        have d1 := hcell 1 y1 rfl
        have t1 := fun (a : Addr) (W : World) (q : Mode) => run_store Try.prog W a y1 q (hone y1 (by simp))
        clear hone
        obtain ⟨u0, e0⟩ := hsome (a * 2 + 0) (by omega)
        obtain ⟨u1, e1⟩ := hsome (a * 2 + 1) (by omega)
        simp only [Nat.add_zero, Nat.mul_one] at d0 e0
        have f0 := hfz (a * 2 + 0)
        have f1 := hfz (a * 2 + 1)
        simp only [Nat.add_zero, Nat.mul_one] at f0
        clear hcell hsome hfz
        have hgw := World.block_lt_of_cell? wr _ d0
        simp only at hgw
        have HW := Lib.hid (below_alloc (Below.refl wr.heap.size wr) (.cells #[y0, y1] 56))
        cases b
        · go_wp2_with fail
          refine (HF.out l0[k] _ _ _ (List.getElem_mem hlt) HP.out (d.K_of_M (Kd.M_below HM.out HW.out)) ((HE.out.kept.below HW.out).mono (fun k hk => by rw [hk]; rfl))).mono ?_
          rintro e w2 ⟨rfl, hb2⟩
          have hb3 := below_then HW.out HW.out.size hb2
          have e0x := pw_cell_below hb3 e0
          have f0x := (hb3.frozen (p := ⟨g, a * 2 + 0, none⟩) hgw).trans f0
          have e1x := pw_cell_below hb3 e1
          have f1x := (hb3.frozen (p := ⟨g, a * 2 + 1, none⟩) hgw).trans f1
          have s0x : w2.cell? ⟨wr.heap.size, 0, none⟩ = some y0 := pw_cell_below hb2 (by simp)
          have s1x : w2.cell? ⟨wr.heap.size, 1, none⟩ = some y1 := pw_cell_below hb2 (by simp)
          simp only [Nat.add_zero, Nat.mul_one] at f0x
          have HN := Lib.hid (del_keep HG.out HS.out HL.out HE.out hlt HP.out hb3 HLEN.out HM.out)
          clear d0 d1 e0 e1 f0 f1 hb2 hb3
          rw [HD.out] at HN
          simp only [World.setCells, Nat.add_assoc, Nat.reduceAdd] at HN
          go_wp2
          go_roundw
          case rel => exact ⟨a + 1, k + 1, by go_num, by go_num, by omega, by omega, HN⟩
          case measure => simp [intOf]; omega
        · go_wp2_with fail
          refine (HF.out l0[k] _ _ _ (List.getElem_mem hlt) HP.out (d.K_of_M (Kd.M_below HM.out HW.out)) ((HE.out.kept.below HW.out).mono (fun k hk => by rw [hk]; rfl))).mono ?_
          rintro e w2 ⟨rfl, hb2⟩
          have HN := Lib.hid (del_skip HE.out hlt HP.out (below_then HW.out HW.out.size hb2))
          clear hb2
          go_wp2
          go_roundw
          case rel => exact ⟨a, k + 1, rfl, by go_num, by omega, by omega, HN⟩
          case measure => simp [intOf]; omega
      · obtain rfl : k = l0.length := by omega
        have hcl : l0.length ≤ c := HL.out
        have hca : ¬ c = a := by omega
        obtain ⟨cur2, ys, r3, _, hh2, hs2, _⟩ := HE.out.st
        have hs3 : cur2.size = c * 2 := by rw [hs2, HS.out, HD.out]
        have hcz : (Value.cells (.agg #[(.string ⟨#[]⟩), (.string ⟨#[]⟩)])).size = 2 := rfl
        have hclr := fun ty => run_clear_cells (P := Try.prog) wr 24 56 ty (.agg #[(.string ⟨#[]⟩), (.string ⟨#[]⟩)]) Try.underlying24 (fun w => by kernel_rfl) (by decide) g (a * 2) (l0.length - a) (c - a) (by omega) (fun j hj => by rw [hcz] at hj; rw [blk_cell hh2, Array.getElem?_eq_getElem (by omega)]; rfl) (fun j => blk_frozen hh2 j)
        have HEND := Lib.hid (del_end HG.out HS.out HCM.out HL.out HOK.out HE.out (zs := (Builtin.zeroCells (Value.cells (.agg #[(.string ⟨#[]⟩), (.string ⟨#[]⟩)])) (l0.length - a)).toList) (by simp only [Builtin.zeroCells, Array.length_toList, Array.size_map, Array.size_range]; rw [HD.out, hcz]; omega))
        rw [HD.out] at HEND
        clear hh2 hs2 hs3
        generalize (Builtin.zeroCells (Value.cells (.agg #[(.string ⟨#[]⟩), (.string ⟨#[]⟩)])) (l0.length - a)).toList = zs at hclr HEND
        go_wp2
        go_ret
        exact ⟨_, rfl, HEND.out.1, HEND.out.2.1, HEND.out.2.2.mono (fun k hk => by rw [hk]; rfl), .inr rfl⟩

end Go.Proofs.Ytpjpnppoejnafaa.G
