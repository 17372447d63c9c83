import Derived.Test.YtmoiacijklkfaaaMFnExactGet5
import Derived.Test.YtmoiacijklkfaaaMFnExactGet6
import Derived.Test.YtmoiacijklkfaaaMFnExactGet7
import Derived.Test.YtmoiacijklkfaaaMFnExactGet3
import Derived.Test.YtmoiacijklkfaaaMFnExactGet4
/- GKObjGet -/
/-
  An object looked for by kind and name, and copied: the reference and the program.
-/
namespace Go.Proofs.Ytmoiacijklkfaaa.G
open Go.RowKit Go.Proofs.YtmoiacijklkfaaaW.PrintWords Go.Proofs.YtmoiacijklkfaaaW.PrintLast Go.Proofs.YtmoiacijklkfaaaW.PrintMore
attribute [local go_sem] max2_int min2_int max_two min_two max_three min_three max_four min_four
set_option linter.unusedVariables false
set_option linter.unusedSimpArgs false
theorem rdIO {xs : List IObj} {i : Nat} (h : i < xs.length) : rd_T46 xs (i : Int) = xs[i] := by unfold rd_T46; rw [Int.toNat_natCast]; exact getD_at h _
/-- The place of an object; -1 without it. -/
def findO (l : List IObj) (a1 : Int) (a2 : ByteArray) : Int := (l.findIdx? (objIs a1 a2)).elim (-1) (fun k => (k : Int))
theorem idx_find {α : Type} (q : α → Bool) : ∀ (l : List α) (i : Nat), idxO (fun x => some (q x)) l i = some ((l.findIdx? q).elim (-1) (fun k => ((i + k : Nat) : Int)))
  | [], i => rfl
  | x :: xs, i => by
    rw [idxO, List.findIdx?_cons]
    cases hq : q x with
    | true => simp
    | false =>
      simp only [Option.bind_some, Bool.false_eq_true, if_false]
      rw [idx_find q xs (i + 1)]
      cases xs.findIdx? q with
      | none => rfl
      | some k => simp; omega
theorem objAt_f (l : List IObj) (a1 : Int) (a2 : ByteArray) : impl_objAt.f l a1 a2 = some (findO l a1 a2) := by
  unfold impl_objAt.f findO
  rw [idx_find]
  simp only [Nat.zero_add]
theorem l7Find_l0 (l : List IObj) (a1 : Int) (a2 : ByteArray) (hl : l.length ≤ 9223372036854775807) : ∀ (d i : Nat), i + d = l.length → Ev (fun k => spec_l7Find.l0 k l a1 a2 i) (((l.drop i).findIdx? (objIs a1 a2)).elim (-1) (fun k => ((i + k : Nat) : Int)))
  | 0, i, hd => by
    rw [List.drop_of_length_le (by omega)]
    refine Ev.step (fun k => by rw [spec_l7Find.l0]; exact if_neg (by omega)) (Ev.now _)
  | d + 1, i, hd => by
    have hi : i < l.length := by omega
    have ih := l7Find_l0 l a1 a2 hl d (i + 1) (by omega)
    rw [List.drop_eq_getElem_cons hi, List.findIdx?_cons]
    refine Ev.step (fun k => by rw [spec_l7Find.l0]) (ev_if_pos (by omega) (ev_if_pos (by omega) ?_))
    rw [rdIO hi, wsucc hi hl]
    have next : objIs a1 a2 l[i] = false → Ev (fun k => spec_l7Find.l0 k l a1 a2 ((i + 1 : Nat) : Int)) ((if objIs a1 a2 l[i] = true then some 0 else ((l.drop (i + 1)).findIdx? (objIs a1 a2)).map (fun i => i + 1)).elim (-1) (fun k => ((i + k : Nat) : Int))) := fun h => by
      rw [h]
      refine ev_rw ih ?_
      cases (l.drop (i + 1)).findIdx? (objIs a1 a2) with
      | none => rfl
      | some k => simp; omega
    refine ev_if (fun h1 => ev_if (fun h2 => ev_some ?_) (fun h2 => next (by unfold objIs; simp [h2]))) (fun h1 => next (by unfold objIs; simp [h1]))
    rw [show objIs a1 a2 l[i] = true by unfold objIs; simp [h1, h2]]
    simp
theorem l7Find_ev (l : List IObj) (a1 : Int) (a2 : ByteArray) (hl : l.length ≤ 9223372036854775807) : Ev (fun k => spec_l7Find.f k l a1 a2) (findO l a1 a2) := by
  have h := l7Find_l0 l a1 a2 hl l.length 0 (by omega)
  unfold spec_l7Find.f
  refine ev_rw h ?_
  rw [List.drop_zero]
  unfold findO
  simp only [Nat.zero_add]
/-- The object of a kind and name, and whether it is there. -/
def getR (l : List IObj) (a1 : Int) (a2 : ByteArray) : IObj × Bool := match l.findIdx? (objIs a1 a2) with
  | some k => (oAt l k, true)
  | none => (zO, false)
theorem find_some {l : List IObj} {a1 : Int} {a2 : ByteArray} {k : Nat} (h : l.findIdx? (objIs a1 a2) = some k) : findO l a1 a2 = (k : Int) ∧ k < l.length ∧ getR l a1 a2 = (oAt l k, true) := by
  refine ⟨by unfold findO; rw [h]; rfl, ?_, by unfold getR; rw [h]⟩
  rw [List.findIdx?_eq_some_iff_getElem] at h
  exact h.1
theorem find_none {l : List IObj} {a1 : Int} {a2 : ByteArray} (h : l.findIdx? (objIs a1 a2) = none) : findO l a1 a2 = -1 ∧ getR l a1 a2 = (zO, false) := ⟨by unfold findO; rw [h]; rfl, by unfold getR; rw [h]⟩
theorem l7Copy_ev (n : Nat) (x : IObj) (h6 : x.f6.length ≤ 1048576) (h7 : SmI n x.f7) (h8 : SmI n x.f8) : Ev (fun k => spec_l7Copy.f k x.f0 x.f1 x.f2 x.f3 x.f4 x.f5 x.f6 x.f7.f0 x.f7.f1 x.f7.f2 x.f7.f3 x.f7.f4 x.f8.f0 x.f8.f1 x.f8.f2 x.f8.f3 x.f8.f4) (x.f0, x.f1, x.f2, x.f3, x.f4, x.f5, x.f6, x.f7.f0, x.f7.f1, x.f7.f2, x.f7.f3, x.f7.f4, x.f8.f0, x.f8.f1, x.f8.f2, x.f8.f3, x.f8.f4) := by
  unfold spec_l7Copy.f
  simp only [Option.bind_some]
  exact ev_if_pos (by simp; omega) (Ev.bind (l4Copy_ev n x.f7 h7) (Ev.bind (l4Copy_ev n x.f8 h8) (ev_some (by simp))))
theorem kO_mk {w : World} {x : IObj} {A6 A10 A11 A15 A16 : Option Addr} {c6 c10 c11 c15 c16 : Nat} (l6 : x.f6.length ≤ c6) (g6 : Kd.C Kd.string w A6 x.f6.length x.f6) (l10 : x.f7.f3.length ≤ c10) (g10 : Kd.C Kd.string w A10 x.f7.f3.length x.f7.f3) (l11 : x.f7.f4.length ≤ c11) (g11 : Kd.C k44 w A11 x.f7.f4.length x.f7.f4) (l15 : x.f8.f3.length ≤ c15) (g15 : Kd.C Kd.string w A15 x.f8.f3.length x.f8.f3) (l16 : x.f8.f4.length ≤ c16) (g16 : Kd.C k44 w A16 x.f8.f4.length x.f8.f4) :
    k46.K w x [.int .i64 x.f0, .string x.f1, .int .i64 x.f2, .int .i64 x.f3, .int .i64 x.f4, .bool x.f5, .slice A6 x.f6.length c6, .int .i64 x.f7.f0, .string x.f7.f1, .int .i64 x.f7.f2, .slice A10 x.f7.f3.length c10, .slice A11 x.f7.f4.length c11, .int .i64 x.f8.f0, .string x.f8.f1, .int .i64 x.f8.f2, .slice A15 x.f8.f3.length c15, .slice A16 x.f8.f4.length c16] :=
  ⟨[_], _, rfl, rfl, [_], _, rfl, rfl, [_], _, rfl, rfl, [_], _, rfl, rfl, [_], _, rfl, rfl, [_], _, rfl, rfl, [_], _, rfl, ⟨A6, c6, rfl, l6, g6⟩, _, _, rfl, k44_mk w x.f7 l10 g10 l11 g11, k44_mk w x.f8 l15 g15 l16 g16⟩
/-- l7Copy: what it leaves is read as what it copied. -/
theorem l7Copy_calls (n : Nat) (x : IObj) (cs : List Value) (w : World) (hk : k46.K w x cs) (h6 : x.f6.length ≤ 1048576) (h7 : SmI n x.f7) (h8 : SmI n x.f8) :
    Calls Try.prog 75 #[.agg cs.toArray] w fun e w' => ∃ cs' : List Value, e = .returned (.agg cs'.toArray) ∧ (∀ w2 : World, (∀ k, w.heap.size ≤ k → w2.heap[k]? = w'.heap[k]?) → k46.K w2 x cs') ∧ Below w.heap.size w w' := by
  obtain ⟨A6, c6, A10, c10, A11, c11, A15, c15, A16, c16, rfl, l6, g6, l10, g10, l11, g11, l15, g15, l16, g16⟩ := k46_open hk
  obtain ⟨K, hK⟩ := l7Copy_ev n x h6 h7 h8
  refine (spec_l7Copy.calls K x.f0 x.f1 x.f2 x.f3 x.f4 x.f5 A6 c6 x.f6 x.f7.f0 x.f7.f1 x.f7.f2 A10 c10 x.f7.f3 A11 c11 x.f7.f4 x.f8.f0 x.f8.f1 x.f8.f2 A15 c15 x.f8.f3 A16 c16 x.f8.f4 _ _ _ _ _ _ _ _ _ _ _ _ _ _ _ _ _ w g6 l6 g10 l10 g11 l11 g15 l15 g16 l16 (hK K (Nat.le_refl _))).mono ?_
  rintro e w' ⟨v6, v10, v11, v15, v16, rfl, r6, r10, r11, r15, r16, hb⟩
  obtain ⟨B6, d6, rfl⟩ := Kd.R_slice r6
  obtain ⟨B10, d10, rfl⟩ := Kd.R_slice r10
  obtain ⟨B11, d11, rfl⟩ := Kd.R_slice r11
  obtain ⟨B15, d15, rfl⟩ := Kd.R_slice r15
  obtain ⟨B16, d16, rfl⟩ := Kd.R_slice r16
  refine ⟨_, rfl, fun w2 hm => ?_, hb⟩
  obtain ⟨_, _, e6, m6, k6⟩ := Kd.R_reads (Kd.R_step (Kd.R_bound r6) (fun k hk _ => hm k hk.2.1))
  obtain ⟨_, _, e10, m10, k10⟩ := Kd.R_reads (Kd.R_step (Kd.R_bound r10) (fun k hk _ => hm k hk.2.1))
  obtain ⟨_, _, e11, m11, k11⟩ := Kd.R_reads (Kd.R_step (Kd.R_bound r11) (fun k hk _ => hm k hk.2.1))
  obtain ⟨_, _, e15, m15, k15⟩ := Kd.R_reads (Kd.R_step (Kd.R_bound r15) (fun k hk _ => hm k hk.2.1))
  obtain ⟨_, _, e16, m16, k16⟩ := Kd.R_reads (Kd.R_step (Kd.R_bound r16) (fun k hk _ => hm k hk.2.1))
  cases e6
  cases e10
  cases e11
  cases e15
  cases e16
  exact kO_mk m6 k6 m10 k10 m11 k11 m15 k15 m16 k16
set_option maxHeartbeats 16000000 in
set_option maxRecDepth 100000 in
theorem implGet_calls (n : Nat) (y : IBase) (a1 : Int) (a2 : ByteArray) (A0 : Option Addr) (c0 : Nat) (A3 : Option Addr) (c3 : Nat) (w : World) (hr : BR w y A0 c0 A3 c3) (hs : SmB (n + 1) y) :
    Calls Try.prog 25 #[.agg #[.slice A0 y.f0.length c0, .int .i64 y.f1, .int .i64 y.f2, .slice A3 y.f3.length c3], .int .i64 a1, .string a2] w fun e w' => ∃ (cs' : List Value) (fp : List Nat), e = .returned (.tuple #[.agg cs'.toArray, .bool (getR y.f0 a1 a2).2]) ∧ (tO (n + 1)).T w' (getR y.f0 a1 a2).1 cs' fp ∧ fp.Nodup ∧ (∀ k ∈ fp, w.heap.size ≤ k) ∧ Below w.heap.size w w' := by
  obtain ⟨l0, g0, l3, g3⟩ := hr
  have hlen := g0.2.1
  obtain ⟨W1, hW1⟩ : ∃ W1, (w.alloc (.cells #[.slice A0 y.f0.length c0, .int .i64 y.f1, .int .i64 y.f2, .slice A3 y.f3.length c3] 30)).alloc (.cells #[.int .i64 0, .string ⟨#[]⟩, .int .i64 0, .int .i64 0, .int .i64 0, .bool false, .slice none 0 0, .int .i64 0, .string ⟨#[]⟩, .int .i64 0, .slice none 0 0, .slice none 0 0, .int .i64 0, .string ⟨#[]⟩, .int .i64 0, .slice none 0 0, .slice none 0 0] 46) = W1 := ⟨_, rfl⟩
  have hbA := below_alloc (below_alloc (Below.refl w.heap.size w) (.cells #[.slice A0 y.f0.length c0, .int .i64 y.f1, .int .i64 y.f2, .slice A3 y.f3.length c3] 30)) (.cells #[.int .i64 0, .string ⟨#[]⟩, .int .i64 0, .int .i64 0, .int .i64 0, .bool false, .slice none 0 0, .int .i64 0, .string ⟨#[]⟩, .int .i64 0, .slice none 0 0, .slice none 0 0, .int .i64 0, .string ⟨#[]⟩, .int .i64 0, .slice none 0 0, .slice none 0 0] 46)
  obtain ⟨hb0, hb1, hsz⟩ := alloc2 w (.cells #[.slice A0 y.f0.length c0, .int .i64 y.f1, .int .i64 y.f2, .slice A3 y.f3.length c3] 30) (.cells #[.int .i64 0, .string ⟨#[]⟩, .int .i64 0, .int .i64 0, .int .i64 0, .bool false, .slice none 0 0, .int .i64 0, .string ⟨#[]⟩, .int .i64 0, .slice none 0 0, .slice none 0 0, .int .i64 0, .string ⟨#[]⟩, .int .i64 0, .slice none 0 0, .slice none 0 0] 46)
  rw [hW1] at hb0 hb1 hsz hbA
  have HW1 := Lib.hid hW1
  have HBA := Lib.hid hbA
  have Q0 := Lib.hid hb0
  have Q1 : Hid (W1.heap[w.heap.size + 1]? = some (.cells obZ 46 (0, 0))) := Lib.hid hb1
  have HSZ := Lib.hid hsz
  have G0 := Lib.hid (Kd.C_below g0 hbA)
  have HS := Lib.hid hs
  have EF := Lib.hid (objAt_f y.f0 a1 a2)
  clear g0 g3 hbA hb0 hb1 hW1 hs hsz
  go_enter Try.func25, Try.ntmps25
  go_wp2_with fail
  rw [HW1.out]
  refine (impl_objAt.calls A0 c0 y.f0 a1 a2 _ W1 G0.out l0 EF.out).mono ?_
  rintro e w2 ⟨rfl, hd⟩
  have N2 := Lib.hid hd
  have P0 := Lib.hid ((hd.block _ (blk_lt Q0.out)).trans Q0.out)
  have P1 := Lib.hid ((hd.block _ (blk_lt Q1.out)).trans Q1.out)
  clear hd HW1 EF
  cases hf : y.f0.findIdx? (objIs a1 a2) with
  | none =>
    obtain ⟨hz1, hz2⟩ := find_none hf
    have HZ2 := Lib.hid hz2
    rw [hz1]
    clear hz1 hz2 hf
    go_wp2_with ((with_reducible refine gate_store (p := 6) rfl ?_); refine store_event rfl rfl rfl P1.out rfl (cs := obZ) rfl rfl (by kernel_rfl) (by decide) ?_; intro w3 hz hs3 hfar3 hB3; have HZ := Lib.hid hz; have HB3 := Lib.hid (hB3 w (by have := HSZ.out; omega) (below_step HBA.out N2.out)); clear hz hs3 hfar3 hB3)
    refine bodyPost_ret (results_ct rfl _ _ (w.heap.size + 1) 46 _ (0, 0) _ rfl HZ.out Try.underlying46 rfl (by kernel_rfl)) rfl ?_
    exact ⟨obZ.toList, [], by rw [HZ2.out]; rfl, by rw [HZ2.out]; exact zO_T n _, List.nodup_nil, fun k hk => (by cases hk), HB3.out⟩
  | some i =>
    obtain ⟨hz1, hil, hz2⟩ := find_some hf
    rw [oAt_eq hil] at hz2
    have HZ2 := Lib.hid hz2
    rw [hz1]
    clear hz1 hz2 hf
    obtain ⟨ad, cs, rfl, hcs, hK, hcell⟩ := row_at G0.out i hil
    have hsz : (k46 : Kd IObj).sz = 17 := rfl
    rw [hsz] at hcs hcell
    have HK := Lib.hid ((k46 : Kd IObj).K_below N2.out hK)
    have HC := Lib.hid (hcell w2 N2.out)
    have HCS := Lib.hid hcs
    clear hcs hK hcell hsz
    obtain ⟨b0, b1, b2, b3⟩ := cells4 P0.out
    obtain ⟨⟨hs1, hs6, hs7, hs8⟩, hs6l⟩ := HS.out.1.2 _ (List.getElem_mem hil)
    have H7 := Lib.hid hs7
    have H8 := Lib.hid hs8
    have H6 := Lib.hid hs6l
    clear hs1 hs6 hs7 hs8 hs6l
    go_wp2_with ((with_reducible refine gate_dst (N := 21) rfl ?_); refine load_event rfl (N := 21) rfl 46 (.tmp 20) rfl (ad.add (i * 17)) ?hx cs HC.out Try.underlying46 rfl ?hi ?_; (case hx => first | rfl | (go_simp; done) | (go_simp; rfl)); (case hi => rw [HCS.out]; kernel_rfl))
    clear b0 b1 b2 b3
    (with_reducible refine (copyO_calls (n + 1) y.f0[i] cs w2 HK.out H6.out H7.out H8.out).mono ?_)
    rintro e w3 ⟨cs', fp, rfl, hT, hn, hfb, hb3⟩
    have hcl := (tO (n + 1)).T_len hT
    rw [tO_sz] at hcl
    have hone := (tO (n + 1)).T_one hT
    have HN := Lib.hid hn
    have HFB := Lib.hid hfb
    clear hn hfb
    have HT := Lib.hid hT
    have HCL := Lib.hid hcl
    have HONE := Lib.hid hone
    have R1 := Lib.hid ((hb3.block _ (blk_lt P1.out)).trans P1.out)
    have N3 := Lib.hid (below_step N2.out hb3)
    have HS2 := Lib.hid N2.out.size
    clear hT hcl hone hb3
    go_wp2_with ((with_reducible refine gate_store (p := 6) rfl ?_); refine store_event rfl rfl rfl R1.out rfl rfl ?hs ?hi ?h1 ?_; (case hs => simp [HCL.out]; rfl); (case hi => simp only [List.size_toArray, HCL.out]; kernel_rfl); (case h1 => simpa using HONE.out); intro w4 hz hs4 hfar4 hB4; have HZ := Lib.hid hz; have HF4 := Lib.hid hfar4; have HS4 := Lib.hid hs4; have HB4 := Lib.hid (hB4 w (by have := HSZ.out; omega) (below_step HBA.out N3.out)); clear hz hs4 hfar4 hB4)
    refine bodyPost_ret (results_ct rfl _ _ (w.heap.size + 1) 46 _ (0, 0) _ rfl HZ.out Try.underlying46 rfl ?_) rfl ?_
    · simp only [List.size_toArray, HCL.out]; kernel_rfl
    refine ⟨cs', fp, by rw [HZ2.out]; rfl, by rw [HZ2.out]; exact (tO (n + 1)).T_move (fun k hk => HF4.out k (by have h1 := HFB.out k hk; have h2 := HS2.out; have h3 := HSZ.out; omega)) HT.out, HN.out, fun k hk => by have h1 := HFB.out k hk; have h2 := HS2.out; have h3 := HSZ.out; omega, HB4.out⟩
set_option maxHeartbeats 16000000 in
set_option maxRecDepth 100000 in
theorem specGet_calls (n : Nat) (y : IBase) (a1 : Int) (a2 : ByteArray) (A0 : Option Addr) (c0 : Nat) (A3 : Option Addr) (c3 : Nat) (w : World) (hr : BR w y A0 c0 A3 c3) (hs : SmB (n + 1) y) :
    Calls Try.prog 24 #[.agg #[.slice A0 y.f0.length c0, .int .i64 y.f1, .int .i64 y.f2, .slice A3 y.f3.length c3], .int .i64 a1, .string a2] w fun e w' => ∃ cs' : List Value, e = .returned (.tuple #[.agg cs'.toArray, .bool (getR y.f0 a1 a2).2]) ∧ k46.K w' (getR y.f0 a1 a2).1 cs' ∧ Below w.heap.size w w' := by
  obtain ⟨l0, g0, l3, g3⟩ := hr
  have hlen := g0.2.1
  obtain ⟨W1, hW1⟩ : ∃ W1, (w.alloc (.cells #[.slice A0 y.f0.length c0, .int .i64 y.f1, .int .i64 y.f2, .slice A3 y.f3.length c3] 30)).alloc (.cells #[.int .i64 0, .string ⟨#[]⟩, .int .i64 0, .int .i64 0, .int .i64 0, .bool false, .slice none 0 0, .int .i64 0, .string ⟨#[]⟩, .int .i64 0, .slice none 0 0, .slice none 0 0, .int .i64 0, .string ⟨#[]⟩, .int .i64 0, .slice none 0 0, .slice none 0 0] 46) = W1 := ⟨_, rfl⟩
  have hbA := below_alloc (below_alloc (Below.refl w.heap.size w) (.cells #[.slice A0 y.f0.length c0, .int .i64 y.f1, .int .i64 y.f2, .slice A3 y.f3.length c3] 30)) (.cells #[.int .i64 0, .string ⟨#[]⟩, .int .i64 0, .int .i64 0, .int .i64 0, .bool false, .slice none 0 0, .int .i64 0, .string ⟨#[]⟩, .int .i64 0, .slice none 0 0, .slice none 0 0, .int .i64 0, .string ⟨#[]⟩, .int .i64 0, .slice none 0 0, .slice none 0 0] 46)
  obtain ⟨hb0, hb1, hsz⟩ := alloc2 w (.cells #[.slice A0 y.f0.length c0, .int .i64 y.f1, .int .i64 y.f2, .slice A3 y.f3.length c3] 30) (.cells #[.int .i64 0, .string ⟨#[]⟩, .int .i64 0, .int .i64 0, .int .i64 0, .bool false, .slice none 0 0, .int .i64 0, .string ⟨#[]⟩, .int .i64 0, .slice none 0 0, .slice none 0 0, .int .i64 0, .string ⟨#[]⟩, .int .i64 0, .slice none 0 0, .slice none 0 0] 46)
  rw [hW1] at hb0 hb1 hsz hbA
  have HW1 := Lib.hid hW1
  have HBA := Lib.hid hbA
  have Q0 := Lib.hid hb0
  have Q1 : Hid (W1.heap[w.heap.size + 1]? = some (.cells obZ 46 (0, 0))) := Lib.hid hb1
  have HSZ := Lib.hid hsz
  have G0 := Lib.hid (Kd.C_below g0 hbA)
  have HS := Lib.hid hs
  obtain ⟨Kf, ef⟩ := l7Find_ev y.f0 a1 a2 hlen
  have EF := Lib.hid (ef Kf (Nat.le_refl _))
  clear ef
  clear g0 g3 hbA hb0 hb1 hW1 hs hsz
  go_enter Try.func24, Try.ntmps24
  go_wp2_with fail
  rw [HW1.out]
  refine (spec_l7Find.calls Kf A0 c0 y.f0 a1 a2 _ W1 G0.out l0 EF.out).mono ?_
  rintro e w2 ⟨rfl, hd⟩
  have N2 := Lib.hid hd.below
  have P0 := Lib.hid ((hd.below.block _ (blk_lt Q0.out)).trans Q0.out)
  have P1 := Lib.hid ((hd.below.block _ (blk_lt Q1.out)).trans Q1.out)
  clear hd HW1 EF
  cases hf : y.f0.findIdx? (objIs a1 a2) with
  | none =>
    obtain ⟨hz1, hz2⟩ := find_none hf
    have HZ2 := Lib.hid hz2
    rw [hz1]
    clear hz1 hz2 hf
    go_wp2_with ((with_reducible refine gate_store (p := 6) rfl ?_); refine store_event rfl rfl rfl P1.out rfl (cs := obZ) rfl rfl (by kernel_rfl) (by decide) ?_; intro w3 hz hs3 hfar3 hB3; have HZ := Lib.hid hz; have HB3 := Lib.hid (hB3 w (by have := HSZ.out; omega) (below_step HBA.out N2.out)); clear hz hs3 hfar3 hB3)
    refine bodyPost_ret (results_ct rfl _ _ (w.heap.size + 1) 46 _ (0, 0) _ rfl HZ.out Try.underlying46 rfl (by kernel_rfl)) rfl ?_
    exact ⟨obZ.toList, by rw [HZ2.out]; rfl, by rw [HZ2.out]; exact tO_K (zO_T 0 _), HB3.out⟩
  | some i =>
    obtain ⟨hz1, hil, hz2⟩ := find_some hf
    rw [oAt_eq hil] at hz2
    have HZ2 := Lib.hid hz2
    rw [hz1]
    clear hz1 hz2 hf
    obtain ⟨ad, cs, rfl, hcs, hK, hcell⟩ := row_at G0.out i hil
    have hsz : (k46 : Kd IObj).sz = 17 := rfl
    rw [hsz] at hcs hcell
    have HK := Lib.hid ((k46 : Kd IObj).K_below N2.out hK)
    have HC := Lib.hid (hcell w2 N2.out)
    have HCS := Lib.hid hcs
    clear hcs hK hcell hsz
    obtain ⟨b0, b1, b2, b3⟩ := cells4 P0.out
    obtain ⟨⟨hs1, hs6, hs7, hs8⟩, hs6l⟩ := HS.out.1.2 _ (List.getElem_mem hil)
    have H7 := Lib.hid hs7
    have H8 := Lib.hid hs8
    have H6 := Lib.hid hs6l
    clear hs1 hs6 hs7 hs8 hs6l
    go_wp2_with ((with_reducible refine gate_dst (N := 21) rfl ?_); refine load_event rfl (N := 21) rfl 46 (.tmp 20) rfl (ad.add (i * 17)) ?hx cs HC.out Try.underlying46 rfl ?hi ?_; (case hx => first | rfl | (go_simp; done) | (go_simp; rfl)); (case hi => rw [HCS.out]; kernel_rfl))
    clear b0 b1 b2 b3
    (with_reducible refine (l7Copy_calls (n + 1) y.f0[i] cs w2 HK.out H6.out H7.out H8.out).mono ?_)
    rintro e w3 ⟨cs', rfl, hT, hb3⟩
    have hcl : cs'.length = 17 := (k46 : Kd IObj).K_len (hT w3 (fun _ _ => rfl))
    have hone := (k46 : Kd IObj).K_one (hT w3 (fun _ _ => rfl))
    have HT := Lib.hid hT
    have HCL := Lib.hid hcl
    have HONE := Lib.hid hone
    have R1 := Lib.hid ((hb3.block _ (blk_lt P1.out)).trans P1.out)
    have N3 := Lib.hid (below_step N2.out hb3)
    have HS2 := Lib.hid N2.out.size
    clear hT hcl hone hb3
    go_wp2_with ((with_reducible refine gate_store (p := 6) rfl ?_); refine store_event rfl rfl rfl R1.out rfl rfl ?hs ?hi ?h1 ?_; (case hs => simp [HCL.out]; rfl); (case hi => simp only [List.size_toArray, HCL.out]; kernel_rfl); (case h1 => simpa using HONE.out); intro w4 hz hs4 hfar4 hB4; have HZ := Lib.hid hz; have HF4 := Lib.hid hfar4; have HS4 := Lib.hid hs4; have HB4 := Lib.hid (hB4 w (by have := HSZ.out; omega) (below_step HBA.out N3.out)); clear hz hs4 hfar4 hB4)
    refine bodyPost_ret (results_ct rfl _ _ (w.heap.size + 1) 46 _ (0, 0) _ rfl HZ.out Try.underlying46 rfl ?_) rfl ?_
    · simp only [List.size_toArray, HCL.out]; kernel_rfl
    refine ⟨cs', by rw [HZ2.out]; rfl, by rw [HZ2.out]; exact HT.out w4 (fun k hk => HF4.out k (by have h2 := HS2.out; have h3 := HSZ.out; omega)), HB4.out⟩
end Go.Proofs.Ytmoiacijklkfaaa.G

/- GKSeg -/
/-
  An element of a row, taken out of it and put back: between, its cells lie in the row's block one behind the other.
-/
namespace Go.Proofs.Ytmoiacijklkfaaa.G
open Go.RowKit Go.Proofs.YtmoiacijklkfaaaW.PrintWords Go.Proofs.YtmoiacijklkfaaaW.PrintLast Go.Proofs.YtmoiacijklkfaaaW.PrintMore
set_option linter.unusedVariables false
/-- The block g holds, behind P, the cells cs. -/
def Seg (w : World) (g e : Nat) (P cs S : List Value) : Prop := w.heap[g]? = some (.cells (P ++ (cs ++ S)).toArray e (0, 0))
section
variable {w : World} {g e : Nat} {P cs S : List Value}
theorem Seg.cell (h : Seg w g e P cs S) {o : Nat} (ho : P.length = o) {j : Nat} {u : Value} (hu : cs[j]? = some u) : w.cell? ⟨g, o + j, none⟩ = some u := by
  have hj := (List.getElem?_eq_some_iff.1 hu).1
  rw [blk_cell h, List.getElem?_toArray, ← ho, List.getElem?_append_right (Nat.le_add_right _ _), Nat.add_sub_cancel_left, List.getElem?_append_left hj, hu]
theorem Seg.cell0 (h : Seg w g e P cs S) {o : Nat} (ho : P.length = o) {u : Value} (hu : cs[0]? = some u) : w.cell? ⟨g, o, none⟩ = some u := h.cell ho hu
theorem Seg.frozen (h : Seg w g e P cs S) (j : Nat) : w.frozen? ⟨g, j, none⟩ = false := blk_frozen h j
theorem Seg.put (h : Seg w g e P cs S) {o : Nat} (ho : P.length = o) (j : Nat) (hj : j < cs.length) (u : Value) : Seg (w.setCell ⟨g, o + j, none⟩ u) g e P (cs.set j u) S := by
  have := blk_set h (o + j) u
  rw [List.setIfInBounds_toArray, ← ho, List.set_append_right _ _ (Nat.le_add_right _ _), Nat.add_sub_cancel_left, List.set_append_left _ _ hj] at this
  rw [← ho]; exact this
theorem Seg.move {w1 : World} (h : Seg w g e P cs S) (hm : w1.heap[g]? = w.heap[g]?) : Seg w1 g e P cs S := hm.trans h
theorem Seg.lt (h : Seg w g e P cs S) : g < w.heap.size := blk_lt h
end
namespace Td
section
variable {α : Type} {t : Td α} {e : Nat} {w : World} {v : Value} {xs : List α} {fp : List Nat}
theorem Row_split (h : t.Row e w v xs fp) (hn : fp.Nodup) {i : Nat} (hi : i < xs.length) : ∃ (g cap : Nat) (P cs S : List Value) (f : List Nat), v = .slice (some ⟨g, 0, none⟩) xs.length cap ∧ xs.length ≤ cap ∧ Seg w g e P cs S ∧ P.length = i * t.sz ∧ t.T w xs[i] cs f ∧ g ∈ fp ∧ g ∉ f ∧ f.Nodup ∧ (∀ k ∈ f, k ∈ fp) ∧
    (∀ (w' : World) (x' : α) (cs' : List Value), Seg w' g e P cs' S → t.T w' x' cs' f → (∀ k ∈ fp, k ≠ g → k ∉ f → w'.heap[k]? = w.heap[k]?) → t.Row e w' v (xs.set i x') fp) := by
  obtain ⟨ps, rfl, hf, hR⟩ := h
  have hl : ps.length = (ps.map (·.1)).length := by rw [List.length_map]
  have hip : i < ps.length := by omega
  obtain ⟨h0, inner, ho, hr⟩ := hR
  obtain ⟨ho1, ho2⟩ := ho
  rcases ho2 with ⟨_, hz⟩ | ⟨g, cap, cur, rfl, hb, hh, a1, a2, a3, a4⟩
  · omega
  have hksz : t.kd.sz = t.sz := rfl
  have hr1 : inner.length = ps.length * t.sz := hr.1
  have a3 : cur.size = cap * t.sz := a3
  have a4 : cur.toList.take (ps.length * t.sz) = inner := a4
  have hfoot : fp = g :: (ps.map (·.2)).flatten := by rw [← hf, ← flatMap_eq]; rfl
  have hel := hr.2 i _ (List.getElem?_eq_getElem hip)
  obtain ⟨hT, hok⟩ := hel
  have hnd := hn
  rw [hfoot, List.nodup_cons] at hnd
  have hgf : g ∉ ps[i].2 := fun hg => hnd.1 (List.mem_flatten.2 ⟨_, List.mem_map.2 ⟨ps[i], List.getElem_mem hip, rfl⟩, hg⟩)
  have hseg : i * t.sz + t.sz ≤ ps.length * t.sz := by rw [← Nat.succ_mul]; exact Nat.mul_le_mul_right _ hip
  have hcap : ps.length * t.sz ≤ cap * t.sz := Nat.mul_le_mul_right _ a1
  have hcl : cur.toList.length = cap * t.sz := by rw [Array.length_toList, a3]
  have hcin : (inner.drop (i * t.sz)).take t.sz = (cur.toList.drop (i * t.sz)).take t.sz := by
    rw [← a4]
    apply List.ext_getElem?
    intro q
    rw [List.getElem?_take, List.getElem?_take, List.getElem?_drop, List.getElem?_drop, List.getElem?_take]
    by_cases hq : q < t.sz
    · rw [if_pos hq, if_pos hq, if_pos (by omega)]
    · rw [if_neg hq, if_neg hq]
  have hT : t.T w ps[i].1 ((inner.drop (i * t.sz)).take t.sz) ps[i].2 := hT
  rw [hcin] at hT
  have hcs : ((cur.toList.drop (i * t.sz)).take t.sz).length = t.sz := by rw [List.length_take, List.length_drop]; omega
  have hP : (cur.toList.take (i * t.sz)).length = i * t.sz := by rw [List.length_take]; omega
  have hsp : (cur.toList.take (i * t.sz) ++ ((cur.toList.drop (i * t.sz)).take t.sz ++ cur.toList.drop (i * t.sz + t.sz))).toArray = cur := by
    apply Array.toList_inj.1
    show cur.toList.take (i * t.sz) ++ ((cur.toList.drop (i * t.sz)).take t.sz ++ cur.toList.drop (i * t.sz + t.sz)) = cur.toList
    rw [← List.drop_drop, List.take_append_drop, List.take_append_drop]
  have hfin : ∀ k ∈ ps[i].2, k ∈ fp := fun k hk => (hok k hk).1.1
  have hsubnd : ps[i].2.Nodup := by
    have h2 := hnd.2
    have hs : ps[i].2.Sublist (ps.map (·.2)).flatten := List.sublist_flatten_of_mem (List.mem_map.2 ⟨ps[i], List.getElem_mem hip, rfl⟩)
    exact hs.nodup h2
  have hmap2 : ∀ x' : α, (ps.set i (x', ps[i].2)).map (·.2) = ps.map (·.2) := fun x' => by
    rw [List.map_set]
    have : (ps.map (·.2)).set i ((ps.map (·.2))[i]'(by rw [List.length_map]; exact hip)) = ps.map (·.2) := List.set_getElem_self _
    rw [List.getElem_map] at this
    exact this
  have hmap1 : ∀ x' : α, (ps.set i (x', ps[i].2)).map (·.1) = (ps.map (·.1)).set i x' := fun x' => by rw [List.map_set]
  have hfoot' : ∀ x' : α, foot (.slice (some ⟨g, 0, none⟩) ps.length cap) (ps.set i (x', ps[i].2)) = fp := fun x' => by
    unfold foot
    rw [flatMap_eq, hmap2, hfoot]; rfl
  refine ⟨g, cap, cur.toList.take (i * t.sz), (cur.toList.drop (i * t.sz)).take t.sz, cur.toList.drop (i * t.sz + t.sz), ps[i].2, by rw [List.length_map], by rw [List.length_map]; exact a1, ?_, hP, by rw [List.getElem_map]; exact hT, by rw [hfoot]; exact List.mem_cons_self, hgf, hsubnd, hfin, ?_⟩
  · unfold Seg; rw [hsp]; exact hh
  · intro w' x' cs' hS hT' hm
    have hcl' := t.T_len hT'
    have hinl := hr1
    have hinl2 : (inner.take (i * t.sz) ++ cs' ++ inner.drop (i * t.sz + cs'.length)).length = ps.length * t.sz := by
      rw [List.length_append, List.length_append, List.length_take, List.length_drop]; omega
    refine ⟨ps.set i (x', ps[i].2), hmap1 x', hfoot' x', fun k hk => h0 k hk, inner.take (i * t.sz) ++ cs' ++ inner.drop (i * t.sz + cs'.length), ⟨?_, .inr ⟨g, cap, _, by rw [List.length_set], hb, hS, by rw [List.length_set]; exact a1, a2, ?_, ?_⟩⟩, ?_⟩
    · rw [List.length_set, hinl2]; rfl
    · show (cur.toList.take (i * t.sz) ++ (cs' ++ cur.toList.drop (i * t.sz + t.sz))).length = cap * t.sz
      rw [List.length_append, List.length_append, hP, List.length_drop]; omega
    · rw [List.length_set, hksz]
      show (cur.toList.take (i * t.sz) ++ (cs' ++ cur.toList.drop (i * t.sz + t.sz))).take (ps.length * t.sz) = _
      rw [← List.append_assoc, show cur.toList.drop (i * t.sz + t.sz) = cur.toList.drop (i * t.sz + cs'.length) by rw [hcl']]
      apply List.ext_getElem?
      intro q
      rw [List.getElem?_take, seg_get cur.toList cs' (i * t.sz) (by omega) q, seg_get inner cs' (i * t.sz) (by omega) q]
      have hcur : ∀ q, q < ps.length * t.sz → cur.toList[q]? = inner[q]? := by
        intro q hq
        rw [← a4, List.getElem?_take, if_pos hq]
      rw [hcl']
      by_cases hq : q < ps.length * t.sz
      · rw [if_pos hq, hcur q hq]
      · rw [if_neg hq, if_neg (by omega), if_neg (by omega), List.getElem?_eq_none (by omega)]
    · refine ⟨by rw [List.length_set]; exact hinl2, fun j p hj => ?_⟩
      rw [hksz]
      have hdr : ∀ q, q < t.sz → j < ps.length → ((inner.take (i * t.sz) ++ cs' ++ inner.drop (i * t.sz + cs'.length)).drop (j * t.sz))[q]? = if j = i then cs'[q]? else inner[j * t.sz + q]? := by
        intro q hq hjl
        rw [List.getElem?_drop, seg_get inner cs' (i * t.sz) (by omega) _]
        rcases Nat.lt_trichotomy j i with h | h | h
        · have : j * t.sz + t.sz ≤ i * t.sz := by rw [← Nat.succ_mul]; exact Nat.mul_le_mul_right _ h
          rw [if_pos (by omega), if_neg (by omega)]
        · subst h
          rw [if_neg (by omega), if_pos (by omega), if_pos rfl, Nat.add_sub_cancel_left]
        · have : i * t.sz + t.sz ≤ j * t.sz := by rw [← Nat.succ_mul]; exact Nat.mul_le_mul_right _ h
          rw [if_neg (by omega), if_neg (by omega), if_neg (by omega)]
      by_cases hji : j = i
      · subst hji
        rw [List.getElem?_set_self hip] at hj
        cases hj
        have e2 : ((inner.take (j * t.sz) ++ cs' ++ inner.drop (j * t.sz + cs'.length)).drop (j * t.sz)).take t.sz = cs' := by
          apply List.ext_getElem?
          intro q
          rw [List.getElem?_take]
          by_cases hq : q < t.sz
          · rw [if_pos hq, hdr q hq hip, if_pos rfl]
          · rw [if_neg hq, List.getElem?_eq_none (by omega)]
        rw [e2]
        exact ⟨hT', hok⟩
      · rw [List.getElem?_set_ne (by omega)] at hj
        obtain ⟨hjl, rfl⟩ := List.getElem?_eq_some_iff.1 hj
        have e2 : ((inner.take (i * t.sz) ++ cs' ++ inner.drop (i * t.sz + cs'.length)).drop (j * t.sz)).take t.sz = (inner.drop (j * t.sz)).take t.sz := by
          apply List.ext_getElem?
          intro q
          rw [List.getElem?_take, List.getElem?_take]
          by_cases hq : q < t.sz
          · rw [if_pos hq, if_pos hq, hdr q hq hjl, if_neg hji, List.getElem?_drop]
          · rw [if_neg hq, if_neg hq]
        rw [e2]
        obtain ⟨q1, q2⟩ := hr.2 j _ hj
        refine ⟨t.T_move (fun k hk => hm k (q2 k hk).1.1 (fun e_ => (q2 k hk).1.2 (by rw [e_]; rfl)) ?_) q1, q2⟩
        have := flat_apart (ps.map (·.2)) hnd.2 j i (by rw [List.length_map]; exact hjl) (by rw [List.length_map]; exact hip) hji k
        rw [List.getElem_map, List.getElem_map] at this
        exact this hk
end
end Td
end Go.Proofs.Ytmoiacijklkfaaa.G

/- GKMarkW -/
/-
  markValueS and markValue in place.
-/
namespace Go.Proofs.Ytmoiacijklkfaaa.G
open Go.RowKit Go.Proofs.YtmoiacijklkfaaaW.PrintWords Go.Proofs.YtmoiacijklkfaaaW.PrintLast Go.Proofs.YtmoiacijklkfaaaW.PrintMore
set_option linter.unusedVariables false
set_option linter.unusedSimpArgs false
theorem tV0_nil {e : Nat} {w : World} {v : Value} {xs : List TVal} {fp : List Nat} (h : (tV 0).Row e w v xs fp) (hn : fp.Nodup) : xs = [] := by
  cases xs with
  | nil => rfl
  | cons x xs =>
    obtain ⟨_, _, _, _, _, _, hT, _⟩ := Td.Row_at h hn (i := 0) (by simp)
    exact hT.elim
set_option maxHeartbeats 4000000 in
set_option maxRecDepth 100000 in
theorem markValueS_nil (n : Nat) (v : Value) (fp : List Nat) (k0 : Int) (w0 w : World) (hB : Below w0.heap.size w0 w) (hr : (tV n).Row 44 w v [] fp) :
    Calls Try.prog 84 #[v, .int .i64 k0] w fun e w' => e = .returned (.int .i64 k0) ∧ (tV n).Row 44 w' v [] fp ∧ Below w0.heap.size w0 w' ∧ Kept w w' (fun k => k ∈ fp) := by
  obtain ⟨A, c, rfl⟩ := Td.Row_slice hr
  have HR := Lib.hid hr
  have HB := Lib.hid hB
  clear hr hB
  go_enter Try.func84, Try.ntmps84
  go_wp2
  go_loopw [1, 5] (fun vk vi wr => vk = .int .i64 k0 ∧ vi = .int .i64 0 ∧ Hid ((tV n).Row 44 wr (.slice A 0 c) [] fp) ∧ Hid (Below w0.heap.size w0 wr) ∧ Hid (Kept w wr (fun k => k ∈ fp))) (fun _ _ _ => 0)
  case atStart => exact ⟨rfl, rfl, HR, HB, Kept.refl _ _⟩
  case round =>
    obtain ⟨rfl, rfl, HR2, HB2, HK2⟩ := hrel
    go_wp2
    go_ret
    exact ⟨rfl, HR2.out, HB2.out, HK2.out⟩
set_option maxHeartbeats 4000000 in
set_option maxRecDepth 100000 in
theorem markValueS_calls : ∀ (n : Nat) (xs : List TVal) (v : Value) (fp : List Nat) (k0 : Int) (w0 w : World), Below w0.heap.size w0 w → (tV n).Row 44 w v xs fp → fp.Nodup → (∀ k ∈ fp, w0.heap.size ≤ k) → 0 ≤ k0 → (mkL (mkV n) xs k0).2 ≤ 1099511627776 →
    Calls Try.prog 84 #[v, .int .i64 k0] w fun e w' => e = .returned (.int .i64 (mkL (mkV n) xs k0).2) ∧ (tV n).Row 44 w' v (mkL (mkV n) xs k0).1 fp ∧ Below w0.heap.size w0 w' ∧ Kept w w' (fun k => k ∈ fp) := by
  intro n
  induction n with
  | zero =>
    intro xs v fp k0 w0 w hB hr hn hb h0 h1
    obtain rfl := tV0_nil hr hn
    exact markValueS_nil 0 v fp k0 w0 w hB hr
  | succ n ih =>
    intro xs v fp k0 w0 w hB hr hn hb h0 h1
    by_cases hx : xs = []
    · subst hx
      exact markValueS_nil (n + 1) v fp k0 w0 w hB hr
    have hlen : xs.length ≤ 9223372036854775807 := by
      obtain ⟨_, _, _, _, hC⟩ := tV_C hr
      exact hC.2.1
    obtain ⟨g, c, _, _, rfl, _⟩ := Td.Row_at hr hn (i := 0) (List.length_pos_iff.2 hx)
    have HR := Lib.hid hr
    have HB := Lib.hid hB
    have IH := Lib.hid ih
    have HN := Lib.hid hn
    have HBS := Lib.hid hb
    clear hr hB ih hn hb
    go_enter Try.func84, Try.ntmps84
    go_wp2
    go_loopw [1, 5] (fun vk vi wr => ∃ i : Nat, i ≤ xs.length ∧ vk = .int .i64 (mkL (mkV (n + 1)) (xs.take i) k0).2 ∧ vi = .int .i64 i ∧ Hid ((tV (n + 1)).Row 44 wr (.slice (some ⟨g, 0, none⟩) xs.length c) ((mkL (mkV (n + 1)) (xs.take i) k0).1 ++ xs.drop i) fp) ∧ Hid (Below w0.heap.size w0 wr) ∧ Hid (Kept w wr (fun k => k ∈ fp))) (fun _ vi _ => xs.length - (intOf vi).toNat)
    case atStart => exact ⟨0, by omega, rfl, rfl, HR, HB, Kept.refl _ _⟩
    case round =>
      obtain ⟨i, hi, rfl, rfl, HR2, HB2, HK2⟩ := hrel
      by_cases hlt : i < xs.length
      · have hP : (mkL (mkV (n + 1)) (xs.take i) k0).1.length = i := by rw [mkL_len, List.length_take]; omega
        have hnext := mkL_snoc (mkV (n + 1)) (xs.take i) xs[i] k0
        rw [← List.take_succ_eq_append_getElem hlt] at hnext
        have hle := mkL_take_le (mkV_mono (n + 1)) xs (i + 1) k0
        have hk0 := mkL_mono (mkV_mono (n + 1)) (xs.take i) k0
        have HR3 := HR2.out
        rw [List.drop_eq_getElem_cons hlt] at HR3
        clear HR2
        obtain ⟨K, hK⟩ : ∃ K, (mkL (mkV (n + 1)) (xs.take i) k0).2 = K := ⟨_, rfl⟩
        obtain ⟨P, hPe⟩ : ∃ P, (mkL (mkV (n + 1)) (xs.take i) k0).1 = P := ⟨_, rfl⟩
        rw [hPe] at hP HR3 hnext
        rw [hK] at hnext hk0 ⊢
        rw [hnext] at hle
        have hm1 := mkL_mono mkS_mono xs[i].f3 (K + 3)
        have hm2 := mkL_mono (mkV_mono n) xs[i].f4 (mkL mkS xs[i].f3 (K + 3)).2
        have hcnt := mkS_count xs[i].f3 (K + 3)
        have hle2 : (mkL (mkV n) xs[i].f4 (mkL mkS xs[i].f3 (K + 3)).2).2 ≤ 1099511627776 := Int.le_trans hle h1
        have HP := Lib.hid hP
        have HM1 := Lib.hid hm1
        have HM2 := Lib.hid hm2
        have HCNT := Lib.hid hcnt
        have HLE := Lib.hid hle2
        have HLE1 := Lib.hid h1
        have HLE3 := Lib.hid hle
        have HNX := Lib.hid hnext
        clear hm1 hm2 hcnt hle2 h1 hle
        obtain ⟨g0, cap, v3, v4, f3, f4, hv, _, ⟨d0, _, _, _, _⟩, fz, _, _, _, _, _, _, u0, _, _, _, _, hg, hglt⟩ := RowV_at HR3 HN.out
        injection hv with hv hv1 hv2
        injection hv with hv
        injection hv with hv
        subst hv
        clear hv1 hv2
        rw [hP] at d0 u0
        have f0 := fz (i * 5)
        have U0 := Lib.hid (u0 K)
        have hgw := HBS.out g hg
        have B0 := Lib.hid (below_set (j := i * 5) (v := .int .i64 K) HB2.out hgw)
        have K0 := Lib.hid (HK2.out.setCell (p := ⟨g, i * 5, none⟩) (.inl hg) (.int .i64 K))
        clear u0 HR3 fz hnext hPe hK hP HB2 HK2
        have hKle : K + 3 ≤ 1099511627776 := by have := HLE.out; have := HM1.out; have := HM2.out; omega
        obtain ⟨q, hq⟩ := mt_ev (K + 1) (by omega) (by omega)
        have HQ := Lib.hid (hq q (Nat.le_refl q))
        clear hq
        go_wp2_with fail
        refine (laws_markText.calls q (K + 1) _ _ HQ.out).mono ?_
        rintro e w2 ⟨rfl, hb2⟩
        have U2 := Td.Row_below U0.out hb2
        have B2 := Lib.hid (below_step B0.out hb2)
        have K2 := Lib.hid (K0.out.below hb2)
        clear hb2 U0 B0 K0 d0 f0 hglt
        obtain ⟨g2, cap, v3, v4, f3, f4, hv, _, ⟨_, d1, d2, d3, d4⟩, fz, _, _, _, _, _, _, _, u1, _, _, _, hg, hglt⟩ := RowV_at U2 HN.out
        injection hv with hv hv1 hv2
        injection hv with hv
        injection hv with hv
        subst hv
        clear hv1 hv2 U2
        have hP := HP.out
        rw [hP] at d1 d2 d3 d4 u1
        have f1 := fz (i * 5 + 1)
        have f2 := fz (i * 5 + 2)
        have U1 := u1 (mt (K + 1))
        have B1 := Lib.hid (below_set (j := i * 5 + 1) (v := .string (mt (K + 1))) B2.out hgw)
        have K1 := Lib.hid (K2.out.setCell (p := ⟨g, i * 5 + 1, none⟩) (.inl hg) (.string (mt (K + 1))))
        clear u1 fz B2 K2
        obtain ⟨g2, cap, v3', v4', f3', f4', hv, _, _, _, _, _, _, _, _, _, _, _, u2, _, _, _, _⟩ := RowV_at U1 HN.out
        injection hv with hv hv1 hv2
        injection hv with hv
        injection hv with hv
        subst hv
        clear hv1 hv2 U1
        rw [hP] at u2
        have U3 := Lib.hid (u2 (K + 2))
        have B3 := Lib.hid (below_set (j := i * 5 + 2) (v := .int .i64 (K + 2)) B1.out hgw)
        have K3 := Lib.hid (K1.out.setCell (p := ⟨g, i * 5 + 2, none⟩) (.inl hg) (.int .i64 (K + 2)))
        clear u2 B1 K1
        have hx := U3.out
        obtain ⟨g2, cap, v3', v4', f3', f4', hv, _, ⟨_, _, _, e3, _⟩, _, h3, _, _, _, s3, _, _, _, _, u3, _, _, _⟩ := RowV_at hx HN.out
        injection hv with hv hv1 hv2
        injection hv with hv
        injection hv with hv
        subst hv
        clear hv1 hv2 hx
        rw [hP] at e3
        clear hP
        rw [show ((w2.setCell ⟨g, i * 5 + 1, none⟩ (.string (mt (K + 1)))).setCell ⟨g, i * 5 + 2, none⟩ (.int .i64 (K + 2))).cell? ⟨g, i * 5 + 3, none⟩ = (w2.setCell ⟨g, i * 5 + 1, none⟩ (.string (mt (K + 1)))).cell? ⟨g, i * 5 + 3, none⟩ from World.cell?_setCell_other _ _ _ _ (by simp),
          show (w2.setCell ⟨g, i * 5 + 1, none⟩ (.string (mt (K + 1)))).cell? ⟨g, i * 5 + 3, none⟩ = w2.cell? ⟨g, i * 5 + 3, none⟩ from World.cell?_setCell_other _ _ _ _ (by simp), d3] at e3
        obtain rfl := Option.some.inj e3
        clear e3
        have HM := Lib.hid (fun hb3 : ∀ k ∈ f3', w0.heap.size ≤ k => markStrs_calls xs[i].f3 v3 f3' (K + 3) w0 _ B3.out h3 hb3 (by omega) (by have := HLE.out; have := HCNT.out; have := HM2.out; omega))
        have HMS := Lib.hid (HM.out (fun k hk => HBS.out k (s3 k hk)))
        have UU3 := Lib.hid u3
        have S3 : Hid (∀ k ∈ f3', k ∈ fp) := s3
        clear HM h3 u3 s3
        go_wp2_with fail
        rw [show K + 1 + 1 + 1 = K + 3 by omega, show K + 1 + 1 = K + 2 by omega]
        (with_reducible refine HMS.out.mono ?_)
        rintro e w3 ⟨rfl, hr3, hb3, hk3⟩
        have hx := UU3.out w3 _ hr3 (fun k hk hnk => hk3.2 k (Td.Row_lt U3.out k hk) hnk)
        have B4 := Lib.hid hb3
        have K4 := Lib.hid (kept_trans K3.out hk3 (fun k hk => .inl (S3.out k hk)))
        have HXR := Lib.hid hx
        clear hr3 hb3 hk3 UU3 U3 B3 K3 HMS d1 d2 d3 d4 f1 f2 hglt
        obtain ⟨g2, cap, v3', v4', f3', f4', hv, _, ⟨_, _, _, _, d4⟩, _, _, h4, _, n4, _, s4, _, _, _, _, u4, _, _⟩ := RowV_at hx HN.out
        injection hv with hv hv1 hv2
        injection hv with hv
        injection hv with hv
        subst hv
        clear hv1 hv2 hx
        have hP := HP.out
        rw [hP] at d4
        clear hP
        have HM := Lib.hid (fun hb4 : ∀ k ∈ f4', w0.heap.size ≤ k => IH.out xs[i].f4 v4' f4' (mkL mkS xs[i].f3 (K + 3)).2 w0 w3 B4.out h4 n4 hb4 (by have := HM1.out; omega) HLE.out)
        have HMV := Lib.hid (HM.out (fun k hk => HBS.out k (s4 k hk)))
        have UU4 := Lib.hid u4
        have S4 : Hid (∀ k ∈ f4', k ∈ fp) := s4
        clear HM h4 u4 s4 n4
        go_wp2_with fail
        (with_reducible refine HMV.out.mono ?_)
        rintro e w4 ⟨rfl, hr4, hb4, hk4⟩
        have HR4 := Lib.hid (UU4.out w4 _ hr4 (fun k hk hnk => hk4.2 k (Td.Row_lt HXR.out k hk) hnk))
        have HB4 := Lib.hid hb4
        have HK4 := Lib.hid (kept_trans K4.out hk4 (fun k hk => .inl (S4.out k hk)))
        clear hr4 hb4 hk4 UU4 HXR B4 K4 HMV d4
        go_wp2
        go_roundw
        case rel =>
          refine ⟨i + 1, by omega, ?_, by go_num, ?_, HB4, HK4⟩
          · rw [HNX.out]; rfl
          · have h_ := HR4.out
            unfold Hid
            rw [HNX.out]
            simp only [List.append_assoc, List.singleton_append]
            exact h_
        case measure => simp [intOf]; omega
      · obtain rfl : i = xs.length := by omega
        go_wp2
        go_ret
        have h_ := HR2.out
        rw [List.take_length, List.drop_length, List.append_nil] at h_
        exact ⟨by first | rfl | simp, h_, HB2.out, HK2.out⟩
set_option maxHeartbeats 4000000 in
theorem markValue_calls (n : Nat) (x : TVal) (v3 v4 : Value) (f3 f4 : List Nat) (k0 : Int) (w0 w : World) (hB : Below w0.heap.size w0 w) (h3 : Td.string.Row 9 w v3 x.f3 f3) (h4 : (tV n).Row 44 w v4 x.f4 f4) (hn : (f3 ++ f4).Nodup) (hb : ∀ k ∈ f3 ++ f4, w0.heap.size ≤ k) (h0 : 0 ≤ k0) (h1 : (mkL (mkV n) x.f4 (mkL mkS x.f3 k0).2).2 ≤ 1099511627776) :
    Calls Try.prog 51 #[.agg #[.int .i64 x.f0, .string x.f1, .int .i64 x.f2, v3, v4], .int .i64 k0] w fun e w' => e = .returned (.int .i64 (mkL (mkV n) x.f4 (mkL mkS x.f3 k0).2).2) ∧
      Td.string.Row 9 w' v3 (mkL mkS x.f3 k0).1 f3 ∧ (tV n).Row 44 w' v4 (mkL (mkV n) x.f4 (mkL mkS x.f3 k0).2).1 f4 ∧ Below w0.heap.size w0 w' ∧ Kept w w' (fun k => k ∈ f3 ++ f4) := by
  rw [List.nodup_append] at hn
  obtain ⟨n3, n4, n34⟩ := hn
  obtain ⟨A3, c3, rfl⟩ := Td.Row_slice h3
  obtain ⟨A4, c4, rfl⟩ := Td.Row_slice h4
  have hm1 := mkL_mono mkS_mono x.f3 k0
  have hm2 := mkL_mono (mkV_mono n) x.f4 (mkL mkS x.f3 k0).2
  have hcnt := mkS_count x.f3 k0
  have hA := below_alloc (Below.refl w.heap.size w) (.cells #[.int .i64 x.f0, .string x.f1, .int .i64 x.f2, .slice A3 x.f3.length c3, .slice A4 x.f4.length c4] 44)
  have hbx : (w.alloc (.cells #[.int .i64 x.f0, .string x.f1, .int .i64 x.f2, .slice A3 x.f3.length c3, .slice A4 x.f4.length c4] 44)).heap[w.heap.size]? = some (.cells #[.int .i64 x.f0, .string x.f1, .int .i64 x.f2, .slice A3 x.f3.length c3, .slice A4 x.f4.length c4] 44 (0, 0)) := heap_alloc_new _ _
  have l3 : ∀ k ∈ f3, k < w.heap.size := Td.Row_lt h3
  have l4 : ∀ k ∈ f4, k < w.heap.size := Td.Row_lt h4
  have hB1 := below_then hB hB.size hA
  have HA := Lib.hid (Kept.of_below hA (fun k => k ∈ f3 ++ f4))
  have HS := Lib.hid (markStrs_calls x.f3 _ f3 k0 w0 _ hB1 (Td.Row_below h3 hA) (fun k hk => hb k (List.mem_append_left _ hk)) h0 (by omega))
  have HN4 := Lib.hid n4
  have HN34 := Lib.hid n34
  have HBS := Lib.hid hb
  have H4 := Lib.hid (Td.Row_below h4 hA)
  have HL3 := Lib.hid l3
  have HBX := Lib.hid hbx
  have HM1 := Lib.hid hm1
  have H1 := Lib.hid h1
  have hsz1 : w.heap.size < (w.alloc (.cells #[.int .i64 x.f0, .string x.f1, .int .i64 x.f2, .slice A3 x.f3.length c3, .slice A4 x.f4.length c4] 44)).heap.size := blk_lt hbx
  have HSZ := Lib.hid hsz1
  clear hB h3 h4 n3 n4 n34 hb hm1 hm2 hcnt h1 hA hB1 l3 l4 hbx hsz1
  go_enter Try.func51, Try.ntmps51
  go_wp2_with fail
  (with_reducible refine HS.out.mono ?_)
  rintro e w3 ⟨rfl, hr3, hb3, hk3⟩
  have h4' := Td.Row_move H4.out (fun k hk => hk3.2 k (Td.Row_lt H4.out k hk) (fun h => HN34.out k h k hk rfl))
  have hx3 := (hk3.2 w.heap.size HSZ.out (fun h => by have := HL3.out _ h; omega)).trans HBX.out
  have d4 := blk_cell hx3 4
  simp only [List.getElem?_toArray, List.getElem?_cons_zero, List.getElem?_cons_succ] at d4
  have HV := Lib.hid (markValueS_calls n x.f4 _ f4 (mkL mkS x.f3 k0).2 w0 w3 hb3 h4' HN4.out (fun k hk => HBS.out k (List.mem_append_right _ hk)) (by have := HM1.out; omega) H1.out)
  have R3 := Lib.hid hr3
  have K3 := Lib.hid hk3
  clear hr3 hb3 hk3 h4' HS hx3
  go_wp2_with fail
  (with_reducible refine HV.out.mono ?_)
  rintro e w4 ⟨rfl, hr4, hb4, hk4⟩
  have R3b := Lib.hid (Td.Row_move R3.out (fun k hk => hk4.2 k (Td.Row_lt R3.out k hk) (fun h => HN34.out k hk k h rfl)))
  have R4 := Lib.hid hr4
  have B4 := Lib.hid hb4
  have k13 := kept_trans HA.out (K3.out.mono (S' := fun k => k ∈ f3 ++ f4) (fun k hk => List.mem_append_left _ hk)) (fun k hk => .inl hk)
  have K4 := Lib.hid (kept_trans k13 hk4 (fun k hk => .inl (List.mem_append_right _ hk)))
  clear hr4 hb4 hk4 R3 K3 HV k13
  go_wp2
  go_ret
  exact ⟨rfl, R3b.out, R4.out, B4.out, K4.out⟩
end Go.Proofs.Ytmoiacijklkfaaa.G

/- GKMid -/
/-
  An object amid its marking: its cells in the row's block, its five rows apart from each other and from that block.
-/
namespace Go.Proofs.Ytmoiacijklkfaaa.G
open Go.RowKit Go.Proofs.YtmoiacijklkfaaaW.PrintWords Go.Proofs.YtmoiacijklkfaaaW.PrintLast Go.Proofs.YtmoiacijklkfaaaW.PrintMore
set_option linter.unusedVariables false
structure Mid (m e : Nat) (w0 w1 : World) (g : Nat) (P S : List Value) (o : Nat) (f6 f10 f11 f15 f16 : List Nat) (v6 v10 v11 v15 v16 : Value) (wr : World) (cs : List Value) (y6 y10 : List ByteArray) (y11 : List TVal) (y15 : List ByteArray) (y16 : List TVal) : Prop where
  pl : P.length = o
  seg : Seg wr g e P cs S
  r6 : Td.string.Row 9 wr v6 y6 f6
  r10 : Td.string.Row 9 wr v10 y10 f10
  r11 : (tV m).Row 44 wr v11 y11 f11
  r15 : Td.string.Row 9 wr v15 y15 f15
  r16 : (tV m).Row 44 wr v16 y16 f16
  bel : Below w0.heap.size w0 wr
  kept : Kept w1 wr (fun k => k = g ∨ k ∈ f6 ++ ((f10 ++ f11) ++ (f15 ++ f16)))
  gb : w0.heap.size ≤ g
  gf : g ∉ f6 ++ ((f10 ++ f11) ++ (f15 ++ f16))
  nd : (f6 ++ ((f10 ++ f11) ++ (f15 ++ f16))).Nodup
  fb : ∀ k ∈ f6 ++ ((f10 ++ f11) ++ (f15 ++ f16)), w0.heap.size ≤ k
theorem app5 {α : Type} {a b c d e : List α} {k : α} : k ∈ a ++ ((b ++ c) ++ (d ++ e)) ↔ k ∈ a ∨ k ∈ b ∨ k ∈ c ∨ k ∈ d ∨ k ∈ e := by
  simp only [List.mem_append, or_assoc]
theorem nd5 {α : Type} {a b c d e : List α} (h : (a ++ ((b ++ c) ++ (d ++ e))).Nodup) : (a.Nodup ∧ b.Nodup ∧ c.Nodup ∧ d.Nodup ∧ e.Nodup) ∧ (∀ k ∈ a, k ∉ b ∧ k ∉ c ∧ k ∉ d ∧ k ∉ e) ∧ (∀ k ∈ b, k ∉ c ∧ k ∉ d ∧ k ∉ e) ∧ (∀ k ∈ c, k ∉ d ∧ k ∉ e) ∧ (∀ k ∈ d, k ∉ e) := by
  rw [List.nodup_append, List.nodup_append, List.nodup_append, List.nodup_append] at h
  obtain ⟨h1, ⟨⟨h2, h3, h23⟩, ⟨h4, h5, h45⟩, h2345⟩, h12345⟩ := h
  simp only [List.mem_append] at h2345 h12345
  refine ⟨⟨h1, h2, h3, h4, h5⟩, fun k hk => ⟨fun h => ?_, fun h => ?_, fun h => ?_, fun h => ?_⟩, fun k hk => ⟨fun h => ?_, fun h => ?_, fun h => ?_⟩, fun k hk => ⟨fun h => ?_, fun h => ?_⟩, fun k hk h => ?_⟩
  · exact h12345 k hk k (.inl (.inl h)) rfl
  · exact h12345 k hk k (.inl (.inr h)) rfl
  · exact h12345 k hk k (.inr (.inl h)) rfl
  · exact h12345 k hk k (.inr (.inr h)) rfl
  · exact h23 k hk k h rfl
  · exact h2345 k (.inl hk) k (.inl h) rfl
  · exact h2345 k (.inl hk) k (.inr h) rfl
  · exact h2345 k (.inr hk) k (.inl h) rfl
  · exact h2345 k (.inr hk) k (.inr h) rfl
  · exact h45 k hk k h rfl
namespace Mid
variable {m e : Nat} {w0 w1 : World} {g : Nat} {P S : List Value} {o : Nat} {f6 f10 f11 f15 f16 : List Nat} {v6 v10 v11 v15 v16 : Value} {wr wr' : World} {cs : List Value} {y6 y10 : List ByteArray} {y11 : List TVal} {y15 : List ByteArray} {y16 : List TVal}
theorem cell (h : Mid m e w0 w1 g P S o f6 f10 f11 f15 f16 v6 v10 v11 v15 v16 wr cs y6 y10 y11 y15 y16) (j : Nat) {u : Value} (hu : cs[j]? = some u) : wr.cell? ⟨g, o + j, none⟩ = some u := h.seg.cell h.pl hu
theorem cell0 (h : Mid m e w0 w1 g P S o f6 f10 f11 f15 f16 v6 v10 v11 v15 v16 wr cs y6 y10 y11 y15 y16) {u : Value} (hu : cs[0]? = some u) : wr.cell? ⟨g, o, none⟩ = some u := h.seg.cell0 h.pl hu
theorem frozen (h : Mid m e w0 w1 g P S o f6 f10 f11 f15 f16 v6 v10 v11 v15 v16 wr cs y6 y10 y11 y15 y16) (j : Nat) : wr.frozen? ⟨g, j, none⟩ = false := h.seg.frozen j
/-- What leaves the element's block and rows. -/
theorem below (h : Mid m e w0 w1 g P S o f6 f10 f11 f15 f16 v6 v10 v11 v15 v16 wr cs y6 y10 y11 y15 y16) (hb : Below wr.heap.size wr wr') : Mid m e w0 w1 g P S o f6 f10 f11 f15 f16 v6 v10 v11 v15 v16 wr' cs y6 y10 y11 y15 y16 :=
  ⟨h.pl, h.seg.move (hb.block _ h.seg.lt), Td.Row_below h.r6 hb, Td.Row_below h.r10 hb, Td.Row_below h.r11 hb, Td.Row_below h.r15 hb, Td.Row_below h.r16 hb, below_step h.bel hb, h.kept.below hb, h.gb, h.gf, h.nd, h.fb⟩
/-- A cell of it is stored. -/
theorem set (h : Mid m e w0 w1 g P S o f6 f10 f11 f15 f16 v6 v10 v11 v15 v16 wr cs y6 y10 y11 y15 y16) (j : Nat) (hj : j < cs.length) (u : Value) : Mid m e w0 w1 g P S o f6 f10 f11 f15 f16 v6 v10 v11 v15 v16 (wr.setCell ⟨g, o + j, none⟩ u) (cs.set j u) y6 y10 y11 y15 y16 := by
  have far : ∀ k, k ∈ f6 ++ ((f10 ++ f11) ++ (f15 ++ f16)) → (wr.setCell ⟨g, o + j, none⟩ u).heap[k]? = wr.heap[k]? := fun k hk => Below.heap_setCell _ _ _ _ (fun e_ => h.gf (by have e2 : k = g := e_; rw [← e2]; exact hk))
  exact ⟨h.pl, h.seg.put h.pl j hj u, Td.Row_move h.r6 (fun k hk => far k (app5.2 (.inl hk))), Td.Row_move h.r10 (fun k hk => far k (app5.2 (.inr (.inl hk)))), Td.Row_move h.r11 (fun k hk => far k (app5.2 (.inr (.inr (.inl hk))))), Td.Row_move h.r15 (fun k hk => far k (app5.2 (.inr (.inr (.inr (.inl hk)))))), Td.Row_move h.r16 (fun k hk => far k (app5.2 (.inr (.inr (.inr (.inr hk)))))),
    below_set h.bel h.gb, h.kept.setCell (p := ⟨g, o + j, none⟩) (.inl (.inl rfl)) u, h.gb, h.gf, h.nd, h.fb⟩
theorem set0 (h : Mid m e w0 w1 g P S o f6 f10 f11 f15 f16 v6 v10 v11 v15 v16 wr cs y6 y10 y11 y15 y16) (hj : 0 < cs.length) (u : Value) : Mid m e w0 w1 g P S o f6 f10 f11 f15 f16 v6 v10 v11 v15 v16 (wr.setCell ⟨g, o, none⟩ u) (cs.set 0 u) y6 y10 y11 y15 y16 := h.set 0 hj u
theorem in6 (h : Mid m e w0 w1 g P S o f6 f10 f11 f15 f16 v6 v10 v11 v15 v16 wr cs y6 y10 y11 y15 y16) {ys : List ByteArray} (hr : Td.string.Row 9 wr' v6 ys f6) (hb : Below w0.heap.size w0 wr') (hk : Kept wr wr' (fun k => k ∈ f6)) : Mid m e w0 w1 g P S o f6 f10 f11 f15 f16 v6 v10 v11 v15 v16 wr' cs ys y10 y11 y15 y16 := by
  obtain ⟨_, d6, d10, d11, d15⟩ := nd5 h.nd
  have mv : ∀ k, k < wr.heap.size → k ∉ f6 → wr'.heap[k]? = wr.heap[k]? := fun k hl hn => hk.2 k hl hn
  exact ⟨h.pl, h.seg.move (mv _ h.seg.lt (fun hm => h.gf (app5.2 (.inl hm)))), hr, Td.Row_move h.r10 (fun k hm => mv k (Td.Row_lt h.r10 k hm) (fun h6 => (d6 k h6).1 hm)), Td.Row_move h.r11 (fun k hm => mv k (Td.Row_lt h.r11 k hm) (fun h6 => (d6 k h6).2.1 hm)), Td.Row_move h.r15 (fun k hm => mv k (Td.Row_lt h.r15 k hm) (fun h6 => (d6 k h6).2.2.1 hm)), Td.Row_move h.r16 (fun k hm => mv k (Td.Row_lt h.r16 k hm) (fun h6 => (d6 k h6).2.2.2 hm)),
    hb, kept_trans h.kept hk (fun k hm => .inl (.inr (app5.2 (.inl hm)))), h.gb, h.gf, h.nd, h.fb⟩
theorem in10 (h : Mid m e w0 w1 g P S o f6 f10 f11 f15 f16 v6 v10 v11 v15 v16 wr cs y6 y10 y11 y15 y16) {ys : List ByteArray} (hr : Td.string.Row 9 wr' v10 ys f10) (hb : Below w0.heap.size w0 wr') (hk : Kept wr wr' (fun k => k ∈ f10)) : Mid m e w0 w1 g P S o f6 f10 f11 f15 f16 v6 v10 v11 v15 v16 wr' cs y6 ys y11 y15 y16 := by
  obtain ⟨_, d6, d10, d11, d15⟩ := nd5 h.nd
  have mv : ∀ k, k < wr.heap.size → k ∉ f10 → wr'.heap[k]? = wr.heap[k]? := fun k hl hn => hk.2 k hl hn
  exact ⟨h.pl, h.seg.move (mv _ h.seg.lt (fun hm => h.gf (app5.2 (.inr (.inl hm))))), Td.Row_move h.r6 (fun k hm => mv k (Td.Row_lt h.r6 k hm) (d6 k hm).1), hr, Td.Row_move h.r11 (fun k hm => mv k (Td.Row_lt h.r11 k hm) (fun h6 => (d10 k h6).1 hm)), Td.Row_move h.r15 (fun k hm => mv k (Td.Row_lt h.r15 k hm) (fun h6 => (d10 k h6).2.1 hm)), Td.Row_move h.r16 (fun k hm => mv k (Td.Row_lt h.r16 k hm) (fun h6 => (d10 k h6).2.2 hm)),
    hb, kept_trans h.kept hk (fun k hm => .inl (.inr (app5.2 (.inr (.inl hm))))), h.gb, h.gf, h.nd, h.fb⟩
theorem in11 (h : Mid m e w0 w1 g P S o f6 f10 f11 f15 f16 v6 v10 v11 v15 v16 wr cs y6 y10 y11 y15 y16) {ys : List TVal} (hr : (tV m).Row 44 wr' v11 ys f11) (hb : Below w0.heap.size w0 wr') (hk : Kept wr wr' (fun k => k ∈ f11)) : Mid m e w0 w1 g P S o f6 f10 f11 f15 f16 v6 v10 v11 v15 v16 wr' cs y6 y10 ys y15 y16 := by
  obtain ⟨_, d6, d10, d11, d15⟩ := nd5 h.nd
  have mv : ∀ k, k < wr.heap.size → k ∉ f11 → wr'.heap[k]? = wr.heap[k]? := fun k hl hn => hk.2 k hl hn
  exact ⟨h.pl, h.seg.move (mv _ h.seg.lt (fun hm => h.gf (app5.2 (.inr (.inr (.inl hm)))))), Td.Row_move h.r6 (fun k hm => mv k (Td.Row_lt h.r6 k hm) (d6 k hm).2.1), Td.Row_move h.r10 (fun k hm => mv k (Td.Row_lt h.r10 k hm) (d10 k hm).1), hr, Td.Row_move h.r15 (fun k hm => mv k (Td.Row_lt h.r15 k hm) (fun h6 => (d11 k h6).1 hm)), Td.Row_move h.r16 (fun k hm => mv k (Td.Row_lt h.r16 k hm) (fun h6 => (d11 k h6).2 hm)),
    hb, kept_trans h.kept hk (fun k hm => .inl (.inr (app5.2 (.inr (.inr (.inl hm)))))), h.gb, h.gf, h.nd, h.fb⟩
theorem in15 (h : Mid m e w0 w1 g P S o f6 f10 f11 f15 f16 v6 v10 v11 v15 v16 wr cs y6 y10 y11 y15 y16) {ys : List ByteArray} (hr : Td.string.Row 9 wr' v15 ys f15) (hb : Below w0.heap.size w0 wr') (hk : Kept wr wr' (fun k => k ∈ f15)) : Mid m e w0 w1 g P S o f6 f10 f11 f15 f16 v6 v10 v11 v15 v16 wr' cs y6 y10 y11 ys y16 := by
  obtain ⟨_, d6, d10, d11, d15⟩ := nd5 h.nd
  have mv : ∀ k, k < wr.heap.size → k ∉ f15 → wr'.heap[k]? = wr.heap[k]? := fun k hl hn => hk.2 k hl hn
  exact ⟨h.pl, h.seg.move (mv _ h.seg.lt (fun hm => h.gf (app5.2 (.inr (.inr (.inr (.inl hm))))))), Td.Row_move h.r6 (fun k hm => mv k (Td.Row_lt h.r6 k hm) (d6 k hm).2.2.1), Td.Row_move h.r10 (fun k hm => mv k (Td.Row_lt h.r10 k hm) (d10 k hm).2.1), Td.Row_move h.r11 (fun k hm => mv k (Td.Row_lt h.r11 k hm) (d11 k hm).1), hr, Td.Row_move h.r16 (fun k hm => mv k (Td.Row_lt h.r16 k hm) (fun h6 => d15 k h6 hm)),
    hb, kept_trans h.kept hk (fun k hm => .inl (.inr (app5.2 (.inr (.inr (.inr (.inl hm))))))), h.gb, h.gf, h.nd, h.fb⟩
theorem in16 (h : Mid m e w0 w1 g P S o f6 f10 f11 f15 f16 v6 v10 v11 v15 v16 wr cs y6 y10 y11 y15 y16) {ys : List TVal} (hr : (tV m).Row 44 wr' v16 ys f16) (hb : Below w0.heap.size w0 wr') (hk : Kept wr wr' (fun k => k ∈ f16)) : Mid m e w0 w1 g P S o f6 f10 f11 f15 f16 v6 v10 v11 v15 v16 wr' cs y6 y10 y11 y15 ys := by
  obtain ⟨_, d6, d10, d11, d15⟩ := nd5 h.nd
  have mv : ∀ k, k < wr.heap.size → k ∉ f16 → wr'.heap[k]? = wr.heap[k]? := fun k hl hn => hk.2 k hl hn
  exact ⟨h.pl, h.seg.move (mv _ h.seg.lt (fun hm => h.gf (app5.2 (.inr (.inr (.inr (.inr hm))))))), Td.Row_move h.r6 (fun k hm => mv k (Td.Row_lt h.r6 k hm) (d6 k hm).2.2.2), Td.Row_move h.r10 (fun k hm => mv k (Td.Row_lt h.r10 k hm) (d10 k hm).2.2), Td.Row_move h.r11 (fun k hm => mv k (Td.Row_lt h.r11 k hm) (d11 k hm).2), Td.Row_move h.r15 (fun k hm => mv k (Td.Row_lt h.r15 k hm) (d15 k hm)), hr,
    hb, kept_trans h.kept hk (fun k hm => .inl (.inr (app5.2 (.inr (.inr (.inr (.inr hm))))))), h.gb, h.gf, h.nd, h.fb⟩
end Mid
/-! ### an object opened whole -/
/-- The cells of an object, as a list. -/
def obL (x : IObj) (v6 v10 v11 v15 v16 : Value) : List Value := [.int .i64 x.f0, .string x.f1, .int .i64 x.f2, .int .i64 x.f3, .int .i64 x.f4, .bool x.f5, v6, .int .i64 x.f7.f0, .string x.f7.f1, .int .i64 x.f7.f2, v10, v11, .int .i64 x.f8.f0, .string x.f8.f1, .int .i64 x.f8.f2, v15, v16]
section
variable {m : Nat} {w : World} {x : IObj} {cs : List Value} {fp : List Nat}
theorem tO_open5 (h : (tO (m + 1)).T w x cs fp) : ∃ v6 v10 v11 v15 v16 f6 f10 f11 f15 f16, cs = obL x v6 v10 v11 v15 v16 ∧ fp = f6 ++ ((f10 ++ f11) ++ (f15 ++ f16)) ∧ Td.string.Row 9 w v6 x.f6 f6 ∧ Td.string.Row 9 w v10 x.f7.f3 f10 ∧ (tV m).Row 44 w v11 x.f7.f4 f11 ∧ Td.string.Row 9 w v15 x.f8.f3 f15 ∧ (tV m).Row 44 w v16 x.f8.f4 f16 := by
  obtain ⟨v6, c7, c8, f6, f7, f8, rfl, rfl, h6, h7, h8⟩ := tO_open h
  obtain ⟨v10, v11, f10, f11, rfl, rfl, h10, h11⟩ := tV_open h7
  obtain ⟨v15, v16, f15, f16, rfl, rfl, h15, h16⟩ := tV_open h8
  exact ⟨v6, v10, v11, v15, v16, f6, f10, f11, f15, f16, rfl, rfl, h6, h10, h11, h15, h16⟩
theorem tO_mk5 {v6 v10 v11 v15 v16 : Value} {f6 f10 f11 f15 f16 : List Nat} (h6 : Td.string.Row 9 w v6 x.f6 f6) (h10 : Td.string.Row 9 w v10 x.f7.f3 f10) (h11 : (tV m).Row 44 w v11 x.f7.f4 f11) (h15 : Td.string.Row 9 w v15 x.f8.f3 f15) (h16 : (tV m).Row 44 w v16 x.f8.f4 f16) :
    (tO (m + 1)).T w x (obL x v6 v10 v11 v15 v16) (f6 ++ ((f10 ++ f11) ++ (f15 ++ f16))) := tO_mk h6 (tV_mk h10 h11) (tV_mk h15 h16)
end
end Go.Proofs.Ytmoiacijklkfaaa.G

/- GKMarkO -/
/-
  markObjS, markChangeS in place.
-/
namespace Go.Proofs.Ytmoiacijklkfaaa.G
open Go.RowKit Go.Proofs.YtmoiacijklkfaaaW.PrintWords Go.Proofs.YtmoiacijklkfaaaW.PrintLast Go.Proofs.YtmoiacijklkfaaaW.PrintMore
set_option linter.unusedVariables false
set_option linter.unusedSimpArgs false
noncomputable def mkO (n : Nat) (x : IObj) (k : Int) : IObj × Int :=
  (⟨k, mt (k + 1), k + 2, k + 3, k + 4, ((k + 5) % 3 == 0), (mkL mkS x.f6 (k + 6)).1, (mkV (n + 1) x.f7 (mkL mkS x.f6 (k + 6)).2).1, (mkV (n + 1) x.f8 (mkV (n + 1) x.f7 (mkL mkS x.f6 (k + 6)).2).2).1⟩, (mkV (n + 1) x.f8 (mkV (n + 1) x.f7 (mkL mkS x.f6 (k + 6)).2).2).2)
theorem mkO_mono (n : Nat) (x : IObj) (k : Int) : k ≤ (mkO n x k).2 := by
  have h1 := mkS_count x.f6 (k + 6)
  have h2 := mkV_mono (n + 1) x.f7 (mkL mkS x.f6 (k + 6)).2
  have h3 := mkV_mono (n + 1) x.f8 (mkV (n + 1) x.f7 (mkL mkS x.f6 (k + 6)).2).2
  unfold mkO
  show k ≤ (mkV (n + 1) x.f8 (mkV (n + 1) x.f7 (mkL mkS x.f6 (k + 6)).2).2).2
  omega
noncomputable def mkC (n : Nat) (x : IChg) (k : Int) : IChg × Int := (⟨k, ((k + 1) % 3 == 0), (mkO n x.f2 (k + 2)).1⟩, (mkO n x.f2 (k + 2)).2)
theorem mkC_mono (n : Nat) (x : IChg) (k : Int) : k ≤ (mkC n x k).2 := by
  have h := mkO_mono n x.f2 (k + 2)
  show k ≤ (mkO n x.f2 (k + 2)).2
  omega
set_option maxHeartbeats 16000000 in
set_option maxRecDepth 100000 in
theorem markOs_calls (n : Nat) (xs : List IObj) (v : Value) (fp : List Nat) (k0 : Int) (w0 w : World) (hB : Below w0.heap.size w0 w) (hr : (tO (n + 1)).Row 46 w v xs fp) (hn : fp.Nodup) (hb : ∀ k ∈ fp, w0.heap.size ≤ k) (h0 : 0 ≤ k0) (h1 : (mkL (mkO n) xs k0).2 ≤ 1099511627776) :
    Calls Try.prog 32 #[v, .int .i64 k0] w fun e w' => e = .returned (.int .i64 (mkL (mkO n) xs k0).2) ∧ (tO (n + 1)).Row 46 w' v (mkL (mkO n) xs k0).1 fp ∧ Below w0.heap.size w0 w' ∧ Kept w w' (fun k => k ∈ fp) := by
  obtain ⟨A, c, rfl⟩ := Td.Row_slice hr
  have hlen : xs.length ≤ 9223372036854775807 := by
    obtain ⟨_, _, _, _, hC⟩ := tO_C hr
    exact hC.2.1
  have HR := Lib.hid hr
  have HB := Lib.hid hB
  have HN := Lib.hid hn
  have HBS := Lib.hid hb
  clear hr hB hn hb
  go_enter Try.func32, Try.ntmps32
  go_wp2
  go_loopw [1, 5] (fun vk vi wr => ∃ i : Nat, i ≤ xs.length ∧ vk = .int .i64 (mkL (mkO n) (xs.take i) k0).2 ∧ vi = .int .i64 i ∧ Hid ((tO (n + 1)).Row 46 wr (.slice A xs.length c) ((mkL (mkO n) (xs.take i) k0).1 ++ xs.drop i) fp) ∧ Hid (Below w0.heap.size w0 wr) ∧ Hid (Kept w wr (fun k => k ∈ fp))) (fun _ vi _ => xs.length - (intOf vi).toNat)
  case atStart => exact ⟨0, by omega, rfl, rfl, HR, HB, Kept.refl _ _⟩
  case round =>
    obtain ⟨i, hi, rfl, rfl, HR2, HB2, HK2⟩ := hrel
    by_cases hlt : i < xs.length
    · have hP : (mkL (mkO n) (xs.take i) k0).1.length = i := by rw [mkL_len, List.length_take]; omega
      have hnext := mkL_snoc (mkO n) (xs.take i) xs[i] k0
      rw [← List.take_succ_eq_append_getElem hlt] at hnext
      have hle := mkL_take_le (mkO_mono n) xs (i + 1) k0
      have hk0 := mkL_mono (mkO_mono n) (xs.take i) k0
      have HR3 := HR2.out
      rw [List.drop_eq_getElem_cons hlt] at HR3
      have HR4 := Lib.hid HR3
      clear HR2 HR HB
      obtain ⟨K, hK⟩ : ∃ K, (mkL (mkO n) (xs.take i) k0).2 = K := ⟨_, rfl⟩
      obtain ⟨Q, hQe⟩ : ∃ Q, (mkL (mkO n) (xs.take i) k0).1 = Q := ⟨_, rfl⟩
      rw [hQe] at hP HR3 hnext
      rw [hK] at hnext hk0 ⊢
      rw [hnext] at hle
      have hsl : (Q ++ xs[i] :: xs.drop (i + 1)).length = xs.length := by rw [List.length_append, List.length_cons, List.length_drop, hP]; omega
      obtain ⟨g, cap, P, cs, S, f, hv, hcap, hseg, hPl, hT, hg, hgf, hfn, hfs, hclose⟩ := Td.Row_split HR3 HN.out (i := i) (by rw [hsl]; exact hlt)
      have hxi : (Q ++ xs[i] :: xs.drop (i + 1))[i]'(by rw [hsl]; exact hlt) = xs[i] := by
        rw [List.getElem_append_right (by omega)]; simp [hP]
      have hset : ∀ y, (Q ++ xs[i] :: xs.drop (i + 1)).set i y = Q ++ y :: xs.drop (i + 1) := fun y => set_at _ _ _ _ hP
      simp only [hset] at hclose
      rw [hxi] at hT
      rw [tO_sz] at hPl
      rw [hsl] at hv hcap
      injection hv with hv _ hv2
      subst hv
      subst hv2
      obtain ⟨v6, v10, v11, v15, v16, f6, f10, f11, f15, f16, rfl, rfl, h6, h10, h11, h15, h16⟩ := tO_open5 hT
      have hM : Mid n 46 w0 wr g P S (i * 17) f6 f10 f11 f15 f16 v6 v10 v11 v15 v16 wr (obL xs[i] v6 v10 v11 v15 v16) xs[i].f6 xs[i].f7.f3 xs[i].f7.f4 xs[i].f8.f3 xs[i].f8.f4 :=
        ⟨hPl, hseg, h6, h10, h11, h15, h16, HB2.out, Kept.refl _ _, HBS.out g hg, hgf, hfn, fun k hk => HBS.out k (hfs k hk)⟩
      obtain ⟨K1, hK1⟩ : ∃ K1, (mkL mkS xs[i].f6 (K + 6)).2 = K1 := ⟨_, rfl⟩
      obtain ⟨K2, hK2⟩ : ∃ K2, (mkL mkS xs[i].f7.f3 (K1 + 3)).2 = K2 := ⟨_, rfl⟩
      obtain ⟨K3, hK3⟩ : ∃ K3, (mkL (mkV n) xs[i].f7.f4 K2).2 = K3 := ⟨_, rfl⟩
      obtain ⟨K4, hK4⟩ : ∃ K4, (mkL mkS xs[i].f8.f3 (K3 + 3)).2 = K4 := ⟨_, rfl⟩
      obtain ⟨K5, hK5⟩ : ∃ K5, (mkL (mkV n) xs[i].f8.f4 K4).2 = K5 := ⟨_, rfl⟩
      have hmk : mkO n xs[i] K = (⟨K, mt (K + 1), K + 2, K + 3, K + 4, ((K + 5) % 3 == 0), (mkL mkS xs[i].f6 (K + 6)).1, ⟨K1, mt (K1 + 1), K1 + 2, (mkL mkS xs[i].f7.f3 (K1 + 3)).1, (mkL (mkV n) xs[i].f7.f4 K2).1⟩, ⟨K3, mt (K3 + 1), K3 + 2, (mkL mkS xs[i].f8.f3 (K3 + 3)).1, (mkL (mkV n) xs[i].f8.f4 K4).1⟩⟩, K5) := by
        subst hK5 hK4 hK3 hK2 hK1
        rfl
      have b1 : (K1 : Int) = K + 6 + xs[i].f6.length := by rw [← hK1]; exact mkS_count _ _
      have b2 : (K2 : Int) = K1 + 3 + xs[i].f7.f3.length := by rw [← hK2]; exact mkS_count _ _
      have b3 : K2 ≤ K3 := by rw [← hK3]; exact mkL_mono (mkV_mono n) _ _
      have b4 : (K4 : Int) = K3 + 3 + xs[i].f8.f3.length := by rw [← hK4]; exact mkS_count _ _
      have b5 : K4 ≤ K5 := by rw [← hK5]; exact mkL_mono (mkV_mono n) _ _
      rw [hmk] at hnext hle
      have b6 : K5 ≤ 1099511627776 := Int.le_trans hle h1
      have E1 := Lib.hid hK1
      have E2 := Lib.hid hK2
      have E3 := Lib.hid hK3
      have E4 := Lib.hid hK4
      have E5 := Lib.hid hK5
      have HM0 := Lib.hid hM
      have HCL := Lib.hid hclose
      have HNX := Lib.hid hnext
      have HQP := Lib.hid hP
      have HFS := Lib.hid hfs
      have HG := Lib.hid hg
      have B1 := Lib.hid b1
      have B2 := Lib.hid b2
      have B3 := Lib.hid b3
      have B4 := Lib.hid b4
      have B5 := Lib.hid b5
      have B6 := Lib.hid b6
      have H1 := Lib.hid h1
      have hKle : K + 6 ≤ 1099511627776 := by omega
      have hK1le : K1 + 3 ≤ 1099511627776 := by omega
      have hK3le : K3 + 3 ≤ 1099511627776 := by omega
      have hK10 : 0 ≤ K1 := by omega
      have hK30 : 0 ≤ K3 := by omega
      have hK0 : 0 ≤ K := by omega
      clear hP hnext hle hk0 hsl hseg hPl hT hg hgf hfn hfs hclose hxi hset h6 h10 h11 h15 h16 hM hmk b1 b2 b3 b4 b5 b6 hK1 hK2 hK3 hK4 hK5 hQe hK HR3 h1 hcap
      obtain ⟨q1, hq1⟩ := mt_ev (K + 1) (by omega) (by omega)
      obtain ⟨q2, hq2⟩ := mt_ev (K1 + 1) (by omega) (by omega)
      obtain ⟨q3, hq3⟩ := mt_ev (K3 + 1) (by omega) (by omega)
      have HQ1 := Lib.hid (hq1 q1 (Nat.le_refl _))
      have HQ2 := Lib.hid (hq2 q2 (Nat.le_refl _))
      have HQ3 := Lib.hid (hq3 q3 (Nat.le_refl _))
      clear hq1 hq2 hq3
      have d0 := HM0.out.cell0 rfl
      have f0 := HM0.out.frozen (i * 17)
      have HM1 := Lib.hid (HM0.out.set0 (by simp [obL]) (.int .i64 (K)))
      clear HM0
      go_wp2_with fail
      try simp only [Int.add_assoc, Int.reduceAdd]
      (with_reducible refine (laws_markText.calls q1 (K + 1) _ _ HQ1.out).mono ?_)
      rintro e w2 ⟨rfl, hb2⟩
      have HM2 := Lib.hid (HM1.out.below hb2)
      clear hb2 HM1
      clear d0 f0
      have d1 := HM2.out.cell 1 rfl
      have f1 := HM2.out.frozen (i * 17 + 1)
      have d2 := HM2.out.cell 2 rfl
      have f2 := HM2.out.frozen (i * 17 + 2)
      have d3 := HM2.out.cell 3 rfl
      have f3 := HM2.out.frozen (i * 17 + 3)
      have d4 := HM2.out.cell 4 rfl
      have f4 := HM2.out.frozen (i * 17 + 4)
      have d5 := HM2.out.cell 5 rfl
      have f5 := HM2.out.frozen (i * 17 + 5)
      have d6 := HM2.out.cell 6 rfl
      have HM3 := Lib.hid (((((HM2.out.set 1 (by simp [obL]) (.string (mt (K + 1)))).set 2 (by simp [obL]) (.int .i64 (K + 2))).set 3 (by simp [obL]) (.int .i64 (K + 3))).set 4 (by simp [obL]) (.int .i64 (K + 4))).set 5 (by simp [obL]) (.bool ((K + 5) % 3 == 0)))
      clear HM2
      go_wp2_with fail
      try simp only [Int.add_assoc, Int.reduceAdd]
      (with_reducible refine (markStrs_calls xs[i].f6 v6 f6 (K + 6) w0 _ HM3.out.bel HM3.out.r6 (fun k hk => HM3.out.fb k (app5.2 (.inl hk))) (by omega) (by have := B1.out; omega)).mono ?_)
      rintro e w3 ⟨rfl, hr3, hb3, hk3⟩
      rw [E1.out]
      have HM4 := Lib.hid (HM3.out.in6 hr3 hb3 hk3)
      clear hr3 hb3 hk3 HM3 d6
      clear d1 f1 d2 f2 d3 f3 d4 f4 d5 f5
      have d7 := HM4.out.cell 7 rfl
      have f7 := HM4.out.frozen (i * 17 + 7)
      have HM5 := Lib.hid (HM4.out.set 7 (by simp [obL]) (.int .i64 K1))
      clear HM4
      go_wp2_with fail
      try simp only [Int.add_assoc, Int.reduceAdd]
      (with_reducible refine (laws_markText.calls q2 (K1 + 1) _ _ HQ2.out).mono ?_)
      rintro e w4 ⟨rfl, hb4⟩
      have HM6 := Lib.hid (HM5.out.below hb4)
      clear hb4 HM5
      clear d7 f7
      have d8 := HM6.out.cell 8 rfl
      have f8 := HM6.out.frozen (i * 17 + 8)
      have d9 := HM6.out.cell 9 rfl
      have f9 := HM6.out.frozen (i * 17 + 9)
      have d10 := HM6.out.cell 10 rfl
      have HM7 := Lib.hid ((HM6.out.set 8 (by simp [obL]) (.string (mt (K1 + 1)))).set 9 (by simp [obL]) (.int .i64 (K1 + 2)))
      clear HM6
      go_wp2_with fail
      try simp only [Int.add_assoc, Int.reduceAdd]
      (with_reducible refine (markStrs_calls xs[i].f7.f3 v10 f10 (K1 + 3) w0 _ HM7.out.bel HM7.out.r10 (fun k hk => HM7.out.fb k (app5.2 (.inr (.inl hk)))) (by omega) (by have := B2.out; have h3 := B3.out; have h4 := B4.out; have h5 := B5.out; have h6 := B6.out; omega)).mono ?_)
      rintro e w5 ⟨rfl, hr, hb, hk⟩
      rw [E2.out]
      have HM8 := Lib.hid (HM7.out.in10 hr hb hk)
      clear hr hb hk HM7 d10
      clear d8 f8 d9 f9
      have d11 := HM8.out.cell 11 rfl
      go_wp2_with fail
      (with_reducible refine (markValueS_calls n xs[i].f7.f4 v11 f11 K2 w0 _ HM8.out.bel HM8.out.r11 (nd5 HM8.out.nd).1.2.2.1 (fun k hk => HM8.out.fb k (app5.2 (.inr (.inr (.inl hk))))) (by have := B2.out; omega) (by rw [E3.out]; have := B3.out; have := B4.out; have := B5.out; have := B6.out; omega)).mono ?_)
      rintro e w6 ⟨rfl, hr, hb, hk⟩
      rw [E3.out]
      have HM9 := Lib.hid (HM8.out.in11 hr hb hk)
      clear hr hb hk HM8 d11
      have d12 := HM9.out.cell 12 rfl
      have f12 := HM9.out.frozen (i * 17 + 12)
      have HM10 := Lib.hid (HM9.out.set 12 (by simp [obL]) (.int .i64 K3))
      clear HM9
      go_wp2_with fail
      try simp only [Int.add_assoc, Int.reduceAdd]
      (with_reducible refine (laws_markText.calls q3 (K3 + 1) _ _ HQ3.out).mono ?_)
      rintro e w7 ⟨rfl, hb7⟩
      have HM11 := Lib.hid (HM10.out.below hb7)
      clear hb7 HM10
      clear d12 f12
      have d13 := HM11.out.cell 13 rfl
      have f13 := HM11.out.frozen (i * 17 + 13)
      have d14 := HM11.out.cell 14 rfl
      have f14 := HM11.out.frozen (i * 17 + 14)
      have d15 := HM11.out.cell 15 rfl
      have HM12 := Lib.hid ((HM11.out.set 13 (by simp [obL]) (.string (mt (K3 + 1)))).set 14 (by simp [obL]) (.int .i64 (K3 + 2)))
      clear HM11
      go_wp2_with fail
      try simp only [Int.add_assoc, Int.reduceAdd]
      (with_reducible refine (markStrs_calls xs[i].f8.f3 v15 f15 (K3 + 3) w0 _ HM12.out.bel HM12.out.r15 (fun k hk => HM12.out.fb k (app5.2 (.inr (.inr (.inr (.inl hk)))))) (by omega) (by have := B4.out; have h3 := B3.out; have h4 := B4.out; have h5 := B5.out; have h6 := B6.out; omega)).mono ?_)
      rintro e w8 ⟨rfl, hr, hb, hk⟩
      rw [E4.out]
      have HM13 := Lib.hid (HM12.out.in15 hr hb hk)
      clear hr hb hk HM12 d15
      clear d13 f13 d14 f14
      have d16 := HM13.out.cell 16 rfl
      go_wp2_with fail
      (with_reducible refine (markValueS_calls n xs[i].f8.f4 v16 f16 K4 w0 _ HM13.out.bel HM13.out.r16 (nd5 HM13.out.nd).1.2.2.2.2 (fun k hk => HM13.out.fb k (app5.2 (.inr (.inr (.inr (.inr hk)))))) (by have := B4.out; omega) (by rw [E5.out]; have := B3.out; have := B4.out; have := B5.out; have := B6.out; omega)).mono ?_)
      rintro e w9 ⟨rfl, hr, hb, hk⟩
      rw [E5.out]
      have HM14 := Lib.hid (HM13.out.in16 hr hb hk)
      clear hr hb hk HM13 d16
      have HMZ := HM14.out
      have hz := HCL.out w9 ⟨K, mt (K + 1), K + 2, K + 3, K + 4, ((K + 5) % 3 == 0), (mkL mkS xs[i].f6 (K + 6)).1, ⟨K1, mt (K1 + 1), K1 + 2, (mkL mkS xs[i].f7.f3 (K1 + 3)).1, (mkL (mkV n) xs[i].f7.f4 K2).1⟩, ⟨K3, mt (K3 + 1), K3 + 2, (mkL mkS xs[i].f8.f3 (K3 + 3)).1, (mkL (mkV n) xs[i].f8.f4 K4).1⟩⟩ _ HMZ.seg (tO_mk5 (x := ⟨K, mt (K + 1), K + 2, K + 3, K + 4, ((K + 5) % 3 == 0), (mkL mkS xs[i].f6 (K + 6)).1, ⟨K1, mt (K1 + 1), K1 + 2, (mkL mkS xs[i].f7.f3 (K1 + 3)).1, (mkL (mkV n) xs[i].f7.f4 K2).1⟩, ⟨K3, mt (K3 + 1), K3 + 2, (mkL mkS xs[i].f8.f3 (K3 + 3)).1, (mkL (mkV n) xs[i].f8.f4 K4).1⟩⟩) HMZ.r6 HMZ.r10 HMZ.r11 HMZ.r15 HMZ.r16) (fun k hk hkg hkf => HMZ.kept.2 k (Td.Row_lt HR4.out k hk) (fun h => h.elim hkg hkf))
      have HZ := Lib.hid hz
      have HBZ := Lib.hid HMZ.bel
      have HKZ := Lib.hid (kept_trans HK2.out HMZ.kept (fun k hk => .inl (hk.elim (fun h => h ▸ HG.out) (fun h => HFS.out k h))))
      clear HMZ hz HM14
      go_wp2
      go_roundw
      case rel =>
        refine ⟨i + 1, by omega, ?_, by go_num, ?_, HBZ, HKZ⟩
        · rw [HNX.out]
        · have h_ := HZ.out
          unfold Hid
          rw [HNX.out]
          simp only [List.append_assoc, List.singleton_append]
          exact h_
      case measure => simp [intOf]; omega
    · obtain rfl : i = xs.length := by omega
      go_wp2
      go_ret
      have h_ := HR2.out
      rw [List.take_length, List.drop_length, List.append_nil] at h_
      exact ⟨by first | rfl | simp, h_, HB2.out, HK2.out⟩
end Go.Proofs.Ytmoiacijklkfaaa.G

/- GKMarkC -/
/-
  markChangeS in place.
-/
namespace Go.Proofs.Ytmoiacijklkfaaa.G
open Go.RowKit Go.Proofs.YtmoiacijklkfaaaW.PrintWords Go.Proofs.YtmoiacijklkfaaaW.PrintLast Go.Proofs.YtmoiacijklkfaaaW.PrintMore
set_option linter.unusedVariables false
set_option linter.unusedSimpArgs false
set_option maxHeartbeats 16000000 in
set_option maxRecDepth 100000 in
theorem markCs_calls (n : Nat) (xs : List IChg) (v : Value) (fp : List Nat) (k0 : Int) (w0 w : World) (hB : Below w0.heap.size w0 w) (hr : (tC (n + 1)).Row 90 w v xs fp) (hn : fp.Nodup) (hb : ∀ k ∈ fp, w0.heap.size ≤ k) (h0 : 0 ≤ k0) (h1 : (mkL (mkC n) xs k0).2 ≤ 1099511627776) :
    Calls Try.prog 66 #[v, .int .i64 k0] w fun e w' => e = .returned (.int .i64 (mkL (mkC n) xs k0).2) ∧ (tC (n + 1)).Row 90 w' v (mkL (mkC n) xs k0).1 fp ∧ Below w0.heap.size w0 w' ∧ Kept w w' (fun k => k ∈ fp) := by
  obtain ⟨A, c, rfl⟩ := Td.Row_slice hr
  have hlen : xs.length ≤ 9223372036854775807 := by
    obtain ⟨_, _, _, _, hC⟩ := tC_C hr
    exact hC.2.1
  have HR := Lib.hid hr
  have HB := Lib.hid hB
  have HN := Lib.hid hn
  have HBS := Lib.hid hb
  clear hr hB hn hb
  go_enter Try.func66, Try.ntmps66
  go_wp2
  go_loopw [1, 5] (fun vk vi wr => ∃ i : Nat, i ≤ xs.length ∧ vk = .int .i64 (mkL (mkC n) (xs.take i) k0).2 ∧ vi = .int .i64 i ∧ Hid ((tC (n + 1)).Row 90 wr (.slice A xs.length c) ((mkL (mkC n) (xs.take i) k0).1 ++ xs.drop i) fp) ∧ Hid (Below w0.heap.size w0 wr) ∧ Hid (Kept w wr (fun k => k ∈ fp))) (fun _ vi _ => xs.length - (intOf vi).toNat)
  case atStart => exact ⟨0, by omega, rfl, rfl, HR, HB, Kept.refl _ _⟩
  case round =>
    obtain ⟨i, hi, rfl, rfl, HR2, HB2, HK2⟩ := hrel
    by_cases hlt : i < xs.length
    · have hP : (mkL (mkC n) (xs.take i) k0).1.length = i := by rw [mkL_len, List.length_take]; omega
      have hnext := mkL_snoc (mkC n) (xs.take i) xs[i] k0
      rw [← List.take_succ_eq_append_getElem hlt] at hnext
      have hle := mkL_take_le (mkC_mono n) xs (i + 1) k0
      have hk0 := mkL_mono (mkC_mono n) (xs.take i) k0
      have HR3 := HR2.out
      rw [List.drop_eq_getElem_cons hlt] at HR3
      have HR4 := Lib.hid HR3
      clear HR2 HR HB
      obtain ⟨K, hK⟩ : ∃ K, (mkL (mkC n) (xs.take i) k0).2 = K := ⟨_, rfl⟩
      obtain ⟨Q, hQe⟩ : ∃ Q, (mkL (mkC n) (xs.take i) k0).1 = Q := ⟨_, rfl⟩
      rw [hQe] at hP HR3 hnext
      rw [hK] at hnext hk0 ⊢
      rw [hnext] at hle
      have hsl : (Q ++ xs[i] :: xs.drop (i + 1)).length = xs.length := by rw [List.length_append, List.length_cons, List.length_drop, hP]; omega
      obtain ⟨g, cap, P, cs, S, f, hv, hcap, hseg, hPl, hT, hg, hgf, hfn, hfs, hclose⟩ := Td.Row_split HR3 HN.out (i := i) (by rw [hsl]; exact hlt)
      have hxi : (Q ++ xs[i] :: xs.drop (i + 1))[i]'(by rw [hsl]; exact hlt) = xs[i] := by
        rw [List.getElem_append_right (by omega)]; simp [hP]
      have hset : ∀ y, (Q ++ xs[i] :: xs.drop (i + 1)).set i y = Q ++ y :: xs.drop (i + 1) := fun y => set_at _ _ _ _ hP
      simp only [hset] at hclose
      rw [hxi] at hT
      rw [tC_sz] at hPl
      rw [hsl] at hv hcap
      injection hv with hv _ hv2
      subst hv
      subst hv2
      obtain ⟨cs2, rfl, hT2⟩ := tC_open hT
      obtain ⟨v6, v10, v11, v15, v16, f6, f10, f11, f15, f16, rfl, rfl, h6, h10, h11, h15, h16⟩ := tO_open5 hT2
      have hM : Mid n 90 w0 wr g P S (i * 19) f6 f10 f11 f15 f16 v6 v10 v11 v15 v16 wr (.int .i64 xs[i].f0 :: .bool xs[i].f1 :: obL xs[i].f2 v6 v10 v11 v15 v16) xs[i].f2.f6 xs[i].f2.f7.f3 xs[i].f2.f7.f4 xs[i].f2.f8.f3 xs[i].f2.f8.f4 :=
        ⟨hPl, hseg, h6, h10, h11, h15, h16, HB2.out, Kept.refl _ _, HBS.out g hg, hgf, hfn, fun k hk => HBS.out k (hfs k hk)⟩
      obtain ⟨K1, hK1⟩ : ∃ K1, (mkL mkS xs[i].f2.f6 (K + 8)).2 = K1 := ⟨_, rfl⟩
      obtain ⟨K2, hK2⟩ : ∃ K2, (mkL mkS xs[i].f2.f7.f3 (K1 + 3)).2 = K2 := ⟨_, rfl⟩
      obtain ⟨K3, hK3⟩ : ∃ K3, (mkL (mkV n) xs[i].f2.f7.f4 K2).2 = K3 := ⟨_, rfl⟩
      obtain ⟨K4, hK4⟩ : ∃ K4, (mkL mkS xs[i].f2.f8.f3 (K3 + 3)).2 = K4 := ⟨_, rfl⟩
      obtain ⟨K5, hK5⟩ : ∃ K5, (mkL (mkV n) xs[i].f2.f8.f4 K4).2 = K5 := ⟨_, rfl⟩
      have hmk : mkC n xs[i] K = (⟨K, ((K + 1) % 3 == 0), ⟨K + 2, mt (K + 3), K + 4, K + 5, K + 6, ((K + 7) % 3 == 0), (mkL mkS xs[i].f2.f6 (K + 8)).1, ⟨K1, mt (K1 + 1), K1 + 2, (mkL mkS xs[i].f2.f7.f3 (K1 + 3)).1, (mkL (mkV n) xs[i].f2.f7.f4 K2).1⟩, ⟨K3, mt (K3 + 1), K3 + 2, (mkL mkS xs[i].f2.f8.f3 (K3 + 3)).1, (mkL (mkV n) xs[i].f2.f8.f4 K4).1⟩⟩⟩, K5) := by
        subst hK5 hK4 hK3 hK2 hK1
        unfold mkC mkO; simp only [Int.add_assoc]; rfl
      have b1 : (K1 : Int) = K + 8 + xs[i].f2.f6.length := by rw [← hK1]; exact mkS_count _ _
      have b2 : (K2 : Int) = K1 + 3 + xs[i].f2.f7.f3.length := by rw [← hK2]; exact mkS_count _ _
      have b3 : K2 ≤ K3 := by rw [← hK3]; exact mkL_mono (mkV_mono n) _ _
      have b4 : (K4 : Int) = K3 + 3 + xs[i].f2.f8.f3.length := by rw [← hK4]; exact mkS_count _ _
      have b5 : K4 ≤ K5 := by rw [← hK5]; exact mkL_mono (mkV_mono n) _ _
      rw [hmk] at hnext hle
      have b6 : K5 ≤ 1099511627776 := Int.le_trans hle h1
      have E1 := Lib.hid hK1
      have E2 := Lib.hid hK2
      have E3 := Lib.hid hK3
      have E4 := Lib.hid hK4
      have E5 := Lib.hid hK5
      have HM0 := Lib.hid hM
      have HCL := Lib.hid hclose
      have HNX := Lib.hid hnext
      have HQP := Lib.hid hP
      have HFS := Lib.hid hfs
      have HG := Lib.hid hg
      have B1 := Lib.hid b1
      have B2 := Lib.hid b2
      have B3 := Lib.hid b3
      have B4 := Lib.hid b4
      have B5 := Lib.hid b5
      have B6 := Lib.hid b6
      have H1 := Lib.hid h1
      have hKle : K + 8 ≤ 1099511627776 := by omega
      have hK1le : K1 + 3 ≤ 1099511627776 := by omega
      have hK3le : K3 + 3 ≤ 1099511627776 := by omega
      have hK10 : 0 ≤ K1 := by omega
      have hK30 : 0 ≤ K3 := by omega
      have hK0 : 0 ≤ K := by omega
      clear hP hnext hle hk0 hsl hseg hPl hT hg hgf hfn hfs hclose hxi hset h6 h10 h11 h15 h16 hM hmk b1 b2 b3 b4 b5 b6 hK1 hK2 hK3 hK4 hK5 hQe hK HR3 h1 hcap
      obtain ⟨q1, hq1⟩ := mt_ev (K + 3) (by omega) (by omega)
      obtain ⟨q2, hq2⟩ := mt_ev (K1 + 1) (by omega) (by omega)
      obtain ⟨q3, hq3⟩ := mt_ev (K3 + 1) (by omega) (by omega)
      have HQ1 := Lib.hid (hq1 q1 (Nat.le_refl _))
      have HQ2 := Lib.hid (hq2 q2 (Nat.le_refl _))
      have HQ3 := Lib.hid (hq3 q3 (Nat.le_refl _))
      clear hq1 hq2 hq3
      have dm2 := HM0.out.cell0 rfl
      have fm2 := HM0.out.frozen (i * 19)
      have dm1 := HM0.out.cell 1 rfl
      have fm1 := HM0.out.frozen (i * 19 + 1)
      have d0 := HM0.out.cell 2 rfl
      have f0 := HM0.out.frozen (i * 19 + 2)
      have HM1 := Lib.hid (((HM0.out.set0 (by simp [obL]) (.int .i64 K)).set 1 (by simp [obL]) (.bool ((K + 1) % 3 == 0))).set 2 (by simp [obL]) (.int .i64 (K + 2)))
      clear HM0
      go_wp2_with fail
      try simp only [Int.add_assoc, Int.reduceAdd]
      (with_reducible refine (laws_markText.calls q1 (K + 3) _ _ HQ1.out).mono ?_)
      rintro e w2 ⟨rfl, hb2⟩
      have HM2 := Lib.hid (HM1.out.below hb2)
      clear hb2 HM1
      clear dm2 fm2 dm1 fm1 d0 f0
      have d1 := HM2.out.cell 3 rfl
      have f1 := HM2.out.frozen (i * 19 + 3)
      have d2 := HM2.out.cell 4 rfl
      have f2 := HM2.out.frozen (i * 19 + 4)
      have d3 := HM2.out.cell 5 rfl
      have f3 := HM2.out.frozen (i * 19 + 5)
      have d4 := HM2.out.cell 6 rfl
      have f4 := HM2.out.frozen (i * 19 + 6)
      have d5 := HM2.out.cell 7 rfl
      have f5 := HM2.out.frozen (i * 19 + 7)
      have d6 := HM2.out.cell 8 rfl
      have HM3 := Lib.hid (((((HM2.out.set 3 (by simp [obL]) (.string (mt (K + 3)))).set 4 (by simp [obL]) (.int .i64 (K + 4))).set 5 (by simp [obL]) (.int .i64 (K + 5))).set 6 (by simp [obL]) (.int .i64 (K + 6))).set 7 (by simp [obL]) (.bool ((K + 7) % 3 == 0)))
      clear HM2
      go_wp2_with fail
      try simp only [Int.add_assoc, Int.reduceAdd]
      (with_reducible refine (markStrs_calls xs[i].f2.f6 v6 f6 (K + 8) w0 _ HM3.out.bel HM3.out.r6 (fun k hk => HM3.out.fb k (app5.2 (.inl hk))) (by omega) (by have := B1.out; omega)).mono ?_)
      rintro e w3 ⟨rfl, hr3, hb3, hk3⟩
      rw [E1.out]
      have HM4 := Lib.hid (HM3.out.in6 hr3 hb3 hk3)
      clear hr3 hb3 hk3 HM3 d6
      clear d1 f1 d2 f2 d3 f3 d4 f4 d5 f5
      have d7 := HM4.out.cell 9 rfl
      have f7 := HM4.out.frozen (i * 19 + 9)
      have HM5 := Lib.hid (HM4.out.set 9 (by simp [obL]) (.int .i64 K1))
      clear HM4
      go_wp2_with fail
      try simp only [Int.add_assoc, Int.reduceAdd]
      (with_reducible refine (laws_markText.calls q2 (K1 + 1) _ _ HQ2.out).mono ?_)
      rintro e w4 ⟨rfl, hb4⟩
      have HM6 := Lib.hid (HM5.out.below hb4)
      clear hb4 HM5
      clear d7 f7
      have d8 := HM6.out.cell 10 rfl
      have f8 := HM6.out.frozen (i * 19 + 10)
      have d9 := HM6.out.cell 11 rfl
      have f9 := HM6.out.frozen (i * 19 + 11)
      have d10 := HM6.out.cell 12 rfl
      have HM7 := Lib.hid ((HM6.out.set 10 (by simp [obL]) (.string (mt (K1 + 1)))).set 11 (by simp [obL]) (.int .i64 (K1 + 2)))
      clear HM6
      go_wp2_with fail
      try simp only [Int.add_assoc, Int.reduceAdd]
      (with_reducible refine (markStrs_calls xs[i].f2.f7.f3 v10 f10 (K1 + 3) w0 _ HM7.out.bel HM7.out.r10 (fun k hk => HM7.out.fb k (app5.2 (.inr (.inl hk)))) (by omega) (by have := B2.out; have h3 := B3.out; have h4 := B4.out; have h5 := B5.out; have h6 := B6.out; omega)).mono ?_)
      rintro e w5 ⟨rfl, hr, hb, hk⟩
      rw [E2.out]
      have HM8 := Lib.hid (HM7.out.in10 hr hb hk)
      clear hr hb hk HM7 d10
      clear d8 f8 d9 f9
      have d11 := HM8.out.cell 13 rfl
      go_wp2_with fail
      (with_reducible refine (markValueS_calls n xs[i].f2.f7.f4 v11 f11 K2 w0 _ HM8.out.bel HM8.out.r11 (nd5 HM8.out.nd).1.2.2.1 (fun k hk => HM8.out.fb k (app5.2 (.inr (.inr (.inl hk))))) (by have := B2.out; omega) (by rw [E3.out]; have := B3.out; have := B4.out; have := B5.out; have := B6.out; omega)).mono ?_)
      rintro e w6 ⟨rfl, hr, hb, hk⟩
      rw [E3.out]
      have HM9 := Lib.hid (HM8.out.in11 hr hb hk)
      clear hr hb hk HM8 d11
      have d12 := HM9.out.cell 14 rfl
      have f12 := HM9.out.frozen (i * 19 + 14)
      have HM10 := Lib.hid (HM9.out.set 14 (by simp [obL]) (.int .i64 K3))
      clear HM9
      go_wp2_with fail
      try simp only [Int.add_assoc, Int.reduceAdd]
      (with_reducible refine (laws_markText.calls q3 (K3 + 1) _ _ HQ3.out).mono ?_)
      rintro e w7 ⟨rfl, hb7⟩
      have HM11 := Lib.hid (HM10.out.below hb7)
      clear hb7 HM10
      clear d12 f12
      have d13 := HM11.out.cell 15 rfl
      have f13 := HM11.out.frozen (i * 19 + 15)
      have d14 := HM11.out.cell 16 rfl
      have f14 := HM11.out.frozen (i * 19 + 16)
      have d15 := HM11.out.cell 17 rfl
      have HM12 := Lib.hid ((HM11.out.set 15 (by simp [obL]) (.string (mt (K3 + 1)))).set 16 (by simp [obL]) (.int .i64 (K3 + 2)))
      clear HM11
      go_wp2_with fail
      try simp only [Int.add_assoc, Int.reduceAdd]
      (with_reducible refine (markStrs_calls xs[i].f2.f8.f3 v15 f15 (K3 + 3) w0 _ HM12.out.bel HM12.out.r15 (fun k hk => HM12.out.fb k (app5.2 (.inr (.inr (.inr (.inl hk)))))) (by omega) (by have := B4.out; have h3 := B3.out; have h4 := B4.out; have h5 := B5.out; have h6 := B6.out; omega)).mono ?_)
      rintro e w8 ⟨rfl, hr, hb, hk⟩
      rw [E4.out]
      have HM13 := Lib.hid (HM12.out.in15 hr hb hk)
      clear hr hb hk HM12 d15
      clear d13 f13 d14 f14
      have d16 := HM13.out.cell 18 rfl
      go_wp2_with fail
      (with_reducible refine (markValueS_calls n xs[i].f2.f8.f4 v16 f16 K4 w0 _ HM13.out.bel HM13.out.r16 (nd5 HM13.out.nd).1.2.2.2.2 (fun k hk => HM13.out.fb k (app5.2 (.inr (.inr (.inr (.inr hk)))))) (by have := B4.out; omega) (by rw [E5.out]; have := B3.out; have := B4.out; have := B5.out; have := B6.out; omega)).mono ?_)
      rintro e w9 ⟨rfl, hr, hb, hk⟩
      rw [E5.out]
      have HM14 := Lib.hid (HM13.out.in16 hr hb hk)
      clear hr hb hk HM13 d16
      have HMZ := HM14.out
      have hz := HCL.out w9 ⟨K, ((K + 1) % 3 == 0), ⟨K + 2, mt (K + 3), K + 4, K + 5, K + 6, ((K + 7) % 3 == 0), (mkL mkS xs[i].f2.f6 (K + 8)).1, ⟨K1, mt (K1 + 1), K1 + 2, (mkL mkS xs[i].f2.f7.f3 (K1 + 3)).1, (mkL (mkV n) xs[i].f2.f7.f4 K2).1⟩, ⟨K3, mt (K3 + 1), K3 + 2, (mkL mkS xs[i].f2.f8.f3 (K3 + 3)).1, (mkL (mkV n) xs[i].f2.f8.f4 K4).1⟩⟩⟩ _ HMZ.seg (tC_mk (x := ⟨K, ((K + 1) % 3 == 0), ⟨K + 2, mt (K + 3), K + 4, K + 5, K + 6, ((K + 7) % 3 == 0), (mkL mkS xs[i].f2.f6 (K + 8)).1, ⟨K1, mt (K1 + 1), K1 + 2, (mkL mkS xs[i].f2.f7.f3 (K1 + 3)).1, (mkL (mkV n) xs[i].f2.f7.f4 K2).1⟩, ⟨K3, mt (K3 + 1), K3 + 2, (mkL mkS xs[i].f2.f8.f3 (K3 + 3)).1, (mkL (mkV n) xs[i].f2.f8.f4 K4).1⟩⟩⟩) (tO_mk5 (x := ⟨K + 2, mt (K + 3), K + 4, K + 5, K + 6, ((K + 7) % 3 == 0), (mkL mkS xs[i].f2.f6 (K + 8)).1, ⟨K1, mt (K1 + 1), K1 + 2, (mkL mkS xs[i].f2.f7.f3 (K1 + 3)).1, (mkL (mkV n) xs[i].f2.f7.f4 K2).1⟩, ⟨K3, mt (K3 + 1), K3 + 2, (mkL mkS xs[i].f2.f8.f3 (K3 + 3)).1, (mkL (mkV n) xs[i].f2.f8.f4 K4).1⟩⟩) HMZ.r6 HMZ.r10 HMZ.r11 HMZ.r15 HMZ.r16)) (fun k hk hkg hkf => HMZ.kept.2 k (Td.Row_lt HR4.out k hk) (fun h => h.elim hkg hkf))
      have HZ := Lib.hid hz
      have HBZ := Lib.hid HMZ.bel
      have HKZ := Lib.hid (kept_trans HK2.out HMZ.kept (fun k hk => .inl (hk.elim (fun h => h ▸ HG.out) (fun h => HFS.out k h))))
      clear HMZ hz HM14
      go_wp2
      go_roundw
      case rel =>
        refine ⟨i + 1, by omega, ?_, by go_num, ?_, HBZ, HKZ⟩
        · rw [HNX.out]
        · have h_ := HZ.out
          unfold Hid
          rw [HNX.out]
          simp only [List.append_assoc, List.singleton_append]
          exact h_
      case measure => simp [intOf]; omega
    · obtain rfl : i = xs.length := by omega
      go_wp2
      go_ret
      have h_ := HR2.out
      rw [List.take_length, List.drop_length, List.append_nil] at h_
      exact ⟨by first | rfl | simp, h_, HB2.out, HK2.out⟩
end Go.Proofs.Ytmoiacijklkfaaa.G
