import Derived.Test.YtmoiacijklkfaaaMFnExactObjs3
import Derived.Test.YtmoiacijklkfaaaMFnExactObjs7
import Derived.Test.YtmoiacijklkfaaaMFnExactObjs4
import Derived.Test.YtmoiacijklkfaaaMFnExactObjs1
/- GKMarkW -/
/-
  markValueS and markValue in place.
-/
namespace Go.Proofs.Ytmoiacijklkfaaa.G
open Go.RowKit Go.Proofs.YtmoiacijklkfaaaW.PrintWords Go.Proofs.YtmoiacijklkfaaaW.PrintLast Go.Proofs.YtmoiacijklkfaaaW.PrintMore
set_option linter.unusedVariables false
set_option linter.unusedSimpArgs false
theorem tV0_nil {e : Nat} {w : World} {v : Value} {xs : List TVal} {fp : List Nat} (h : (tV 0).Row e w v xs fp) (hn : fp.Nodup) : xs = [] := by
  cases xs with
  | nil => rfl
  | cons x xs =>
    obtain ⟨_, _, _, _, _, _, hT, _⟩ := Td.Row_at h hn (i := 0) (by simp)
    exact hT.elim
set_option maxHeartbeats 4000000 in
set_option maxRecDepth 100000 in
theorem markValueS_nil (n : Nat) (v : Value) (fp : List Nat) (k0 : Int) (w0 w : World) (hB : Below w0.heap.size w0 w) (hr : (tV n).Row 44 w v [] fp) :
    Calls Try.prog 84 #[v, .int .i64 k0] w fun e w' => e = .returned (.int .i64 k0) ∧ (tV n).Row 44 w' v [] fp ∧ Below w0.heap.size w0 w' ∧ Kept w w' (fun k => k ∈ fp) := by
  obtain ⟨A, c, rfl⟩ := Td.Row_slice hr
  have HR := Lib.hid hr
  have HB := Lib.hid hB
  clear hr hB
  go_enter Try.func84, Try.ntmps84
  go_wp2
  go_loopw [1, 5] (fun vk vi wr => vk = .int .i64 k0 ∧ vi = .int .i64 0 ∧ Hid ((tV n).Row 44 wr (.slice A 0 c) [] fp) ∧ Hid (Below w0.heap.size w0 wr) ∧ Hid (Kept w wr (fun k => k ∈ fp))) (fun _ _ _ => 0)
  case atStart => exact ⟨rfl, rfl, HR, HB, Kept.refl _ _⟩
  case round =>
    obtain ⟨rfl, rfl, HR2, HB2, HK2⟩ := hrel
    go_wp2
    go_ret
    exact ⟨rfl, HR2.out, HB2.out, HK2.out⟩
set_option maxHeartbeats 4000000 in
set_option maxRecDepth 100000 in
theorem markValueS_calls : ∀ (n : Nat) (xs : List TVal) (v : Value) (fp : List Nat) (k0 : Int) (w0 w : World), Below w0.heap.size w0 w → (tV n).Row 44 w v xs fp → fp.Nodup → (∀ k ∈ fp, w0.heap.size ≤ k) → 0 ≤ k0 → (mkL (mkV n) xs k0).2 ≤ 1099511627776 →
    Calls Try.prog 84 #[v, .int .i64 k0] w fun e w' => e = .returned (.int .i64 (mkL (mkV n) xs k0).2) ∧ (tV n).Row 44 w' v (mkL (mkV n) xs k0).1 fp ∧ Below w0.heap.size w0 w' ∧ Kept w w' (fun k => k ∈ fp) := by
  intro n
  induction n with
  | zero =>
    intro xs v fp k0 w0 w hB hr hn hb h0 h1
    obtain rfl := tV0_nil hr hn
    exact markValueS_nil 0 v fp k0 w0 w hB hr
  | succ n ih =>
    intro xs v fp k0 w0 w hB hr hn hb h0 h1
    by_cases hx : xs = []
    · subst hx
      exact markValueS_nil (n + 1) v fp k0 w0 w hB hr
    have hlen : xs.length ≤ 9223372036854775807 := by
      obtain ⟨_, _, _, _, hC⟩ := tV_C hr
      exact hC.2.1
    obtain ⟨g, c, _, _, rfl, _⟩ := Td.Row_at hr hn (i := 0) (List.length_pos_iff.2 hx)
    have HR := Lib.hid hr
    have HB := Lib.hid hB
    have IH := Lib.hid ih
    have HN := Lib.hid hn
    have HBS := Lib.hid hb
    clear hr hB ih hn hb
    go_enter Try.func84, Try.ntmps84
    go_wp2
    go_loopw [1, 5] (fun vk vi wr => ∃ i : Nat, i ≤ xs.length ∧ vk = .int .i64 (mkL (mkV (n + 1)) (xs.take i) k0).2 ∧ vi = .int .i64 i ∧ Hid ((tV (n + 1)).Row 44 wr (.slice (some ⟨g, 0, none⟩) xs.length c) ((mkL (mkV (n + 1)) (xs.take i) k0).1 ++ xs.drop i) fp) ∧ Hid (Below w0.heap.size w0 wr) ∧ Hid (Kept w wr (fun k => k ∈ fp))) (fun _ vi _ => xs.length - (intOf vi).toNat)
    case atStart => exact ⟨0, by omega, rfl, rfl, HR, HB, Kept.refl _ _⟩
    case round =>
      obtain ⟨i, hi, rfl, rfl, HR2, HB2, HK2⟩ := hrel
      by_cases hlt : i < xs.length
      · have hP : (mkL (mkV (n + 1)) (xs.take i) k0).1.length = i := by rw [mkL_len, List.length_take]; omega
        have hnext := mkL_snoc (mkV (n + 1)) (xs.take i) xs[i] k0
        rw [← List.take_succ_eq_append_getElem hlt] at hnext
        have hle := mkL_take_le (mkV_mono (n + 1)) xs (i + 1) k0
        have hk0 := mkL_mono (mkV_mono (n + 1)) (xs.take i) k0
        have HR3 := HR2.out
        rw [List.drop_eq_getElem_cons hlt] at HR3
        clear HR2
        obtain ⟨K, hK⟩ : ∃ K, (mkL (mkV (n + 1)) (xs.take i) k0).2 = K := ⟨_, rfl⟩
        obtain ⟨P, hPe⟩ : ∃ P, (mkL (mkV (n + 1)) (xs.take i) k0).1 = P := ⟨_, rfl⟩
        rw [hPe] at hP HR3 hnext
        rw [hK] at hnext hk0 ⊢
        rw [hnext] at hle
        have hm1 := mkL_mono mkS_mono xs[i].f3 (K + 3)
        have hm2 := mkL_mono (mkV_mono n) xs[i].f4 (mkL mkS xs[i].f3 (K + 3)).2
        have hcnt := mkS_count xs[i].f3 (K + 3)
        have hle2 : (mkL (mkV n) xs[i].f4 (mkL mkS xs[i].f3 (K + 3)).2).2 ≤ 1099511627776 := Int.le_trans hle h1
        have HP := Lib.hid hP
        have HM1 := Lib.hid hm1
        have HM2 := Lib.hid hm2
        have HCNT := Lib.hid hcnt
        have HLE := Lib.hid hle2
        have HLE1 := Lib.hid h1
        have HLE3 := Lib.hid hle
        have HNX := Lib.hid hnext
        clear hm1 hm2 hcnt hle2 h1 hle
        obtain ⟨g0, cap, v3, v4, f3, f4, hv, _, ⟨d0, _, _, _, _⟩, fz, _, _, _, _, _, _, u0, _, _, _, _, hg, hglt⟩ := RowV_at HR3 HN.out
        injection hv with hv hv1 hv2
        injection hv with hv
        injection hv with hv
        subst hv
        clear hv1 hv2
        rw [hP] at d0 u0
        have f0 := fz (i * 5)
        have U0 := Lib.hid (u0 K)
        have hgw := HBS.out g hg
        have B0 := Lib.hid (below_set (j := i * 5) (v := .int .i64 K) HB2.out hgw)
        have K0 := Lib.hid (HK2.out.setCell (p := ⟨g, i * 5, none⟩) (.inl hg) (.int .i64 K))
        clear u0 HR3 fz hnext hPe hK hP HB2 HK2
        have hKle : K + 3 ≤ 1099511627776 := by have := HLE.out; have := HM1.out; have := HM2.out; omega
        obtain ⟨q, hq⟩ := mt_ev (K + 1) (by omega) (by omega)
        have HQ := Lib.hid (hq q (Nat.le_refl q))
        clear hq
        go_wp2_with fail
        refine (laws_markText.calls q (K + 1) _ _ HQ.out).mono ?_
        rintro e w2 ⟨rfl, hb2⟩
        have U2 := Td.Row_below U0.out hb2
        have B2 := Lib.hid (below_step B0.out hb2)
        have K2 := Lib.hid (K0.out.below hb2)
        clear hb2 U0 B0 K0 d0 f0 hglt
        obtain ⟨g2, cap, v3, v4, f3, f4, hv, _, ⟨_, d1, d2, d3, d4⟩, fz, _, _, _, _, _, _, _, u1, _, _, _, hg, hglt⟩ := RowV_at U2 HN.out
        injection hv with hv hv1 hv2
        injection hv with hv
        injection hv with hv
        subst hv
        clear hv1 hv2 U2
        have hP := HP.out
        rw [hP] at d1 d2 d3 d4 u1
        have f1 := fz (i * 5 + 1)
        have f2 := fz (i * 5 + 2)
        have U1 := u1 (mt (K + 1))
        have B1 := Lib.hid (below_set (j := i * 5 + 1) (v := .string (mt (K + 1))) B2.out hgw)
        have K1 := Lib.hid (K2.out.setCell (p := ⟨g, i * 5 + 1, none⟩) (.inl hg) (.string (mt (K + 1))))
        clear u1 fz B2 K2
        obtain ⟨g2, cap, v3', v4', f3', f4', hv, _, _, _, _, _, _, _, _, _, _, _, u2, _, _, _, _⟩ := RowV_at U1 HN.out
        injection hv with hv hv1 hv2
        injection hv with hv
        injection hv with hv
        subst hv
        clear hv1 hv2 U1
        rw [hP] at u2
        have U3 := Lib.hid (u2 (K + 2))
        have B3 := Lib.hid (below_set (j := i * 5 + 2) (v := .int .i64 (K + 2)) B1.out hgw)
        have K3 := Lib.hid (K1.out.setCell (p := ⟨g, i * 5 + 2, none⟩) (.inl hg) (.int .i64 (K + 2)))
        clear u2 B1 K1
        have hx := U3.out
        obtain ⟨g2, cap, v3', v4', f3', f4', hv, _, ⟨_, _, _, e3, _⟩, _, h3, _, _, _, s3, _, _, _, _, u3, _, _, _⟩ := RowV_at hx HN.out
        injection hv with hv hv1 hv2
        injection hv with hv
        injection hv with hv
        subst hv
        clear hv1 hv2 hx
        rw [hP] at e3
        clear hP
        rw [show ((w2.setCell ⟨g, i * 5 + 1, none⟩ (.string (mt (K + 1)))).setCell ⟨g, i * 5 + 2, none⟩ (.int .i64 (K + 2))).cell? ⟨g, i * 5 + 3, none⟩ = (w2.setCell ⟨g, i * 5 + 1, none⟩ (.string (mt (K + 1)))).cell? ⟨g, i * 5 + 3, none⟩ from World.cell?_setCell_other _ _ _ _ (by simp),
          show (w2.setCell ⟨g, i * 5 + 1, none⟩ (.string (mt (K + 1)))).cell? ⟨g, i * 5 + 3, none⟩ = w2.cell? ⟨g, i * 5 + 3, none⟩ from World.cell?_setCell_other _ _ _ _ (by simp), d3] at e3
        obtain rfl := Option.some.inj e3
        clear e3
        have HM := Lib.hid (fun hb3 : ∀ k ∈ f3', w0.heap.size ≤ k => markStrs_calls xs[i].f3 v3 f3' (K + 3) w0 _ B3.out h3 hb3 (by omega) (by have := HLE.out; have := HCNT.out; have := HM2.out; omega))
        have HMS := Lib.hid (HM.out (fun k hk => HBS.out k (s3 k hk)))
        have UU3 := Lib.hid u3
        have S3 : Hid (∀ k ∈ f3', k ∈ fp) := s3
        clear HM h3 u3 s3
        go_wp2_with fail
        rw [show K + 1 + 1 + 1 = K + 3 by omega, show K + 1 + 1 = K + 2 by omega]
        (with_reducible refine HMS.out.mono ?_)
        rintro e w3 ⟨rfl, hr3, hb3, hk3⟩
        have hx := UU3.out w3 _ hr3 (fun k hk hnk => hk3.2 k (Td.Row_lt U3.out k hk) hnk)
        have B4 := Lib.hid hb3
        have K4 := Lib.hid (kept_trans K3.out hk3 (fun k hk => .inl (S3.out k hk)))
        have HXR := Lib.hid hx
        clear hr3 hb3 hk3 UU3 U3 B3 K3 HMS d1 d2 d3 d4 f1 f2 hglt
        obtain ⟨g2, cap, v3', v4', f3', f4', hv, _, ⟨_, _, _, _, d4⟩, _, _, h4, _, n4, _, s4, _, _, _, _, u4, _, _⟩ := RowV_at hx HN.out
        injection hv with hv hv1 hv2
        injection hv with hv
        injection hv with hv
        subst hv
        clear hv1 hv2 hx
        have hP := HP.out
        rw [hP] at d4
        clear hP
        have HM := Lib.hid (fun hb4 : ∀ k ∈ f4', w0.heap.size ≤ k => IH.out xs[i].f4 v4' f4' (mkL mkS xs[i].f3 (K + 3)).2 w0 w3 B4.out h4 n4 hb4 (by have := HM1.out; omega) HLE.out)
        have HMV := Lib.hid (HM.out (fun k hk => HBS.out k (s4 k hk)))
        have UU4 := Lib.hid u4
        have S4 : Hid (∀ k ∈ f4', k ∈ fp) := s4
        clear HM h4 u4 s4 n4
        go_wp2_with fail
        (with_reducible refine HMV.out.mono ?_)
        rintro e w4 ⟨rfl, hr4, hb4, hk4⟩
        have HR4 := Lib.hid (UU4.out w4 _ hr4 (fun k hk hnk => hk4.2 k (Td.Row_lt HXR.out k hk) hnk))
        have HB4 := Lib.hid hb4
        have HK4 := Lib.hid (kept_trans K4.out hk4 (fun k hk => .inl (S4.out k hk)))
        clear hr4 hb4 hk4 UU4 HXR B4 K4 HMV d4
        go_wp2
        go_roundw
        case rel =>
          refine ⟨i + 1, by omega, ?_, by go_num, ?_, HB4, HK4⟩
          · rw [HNX.out]; rfl
          · have h_ := HR4.out
            unfold Hid
            rw [HNX.out]
            simp only [List.append_assoc, List.singleton_append]
            exact h_
        case measure => simp [intOf]; omega
      · obtain rfl : i = xs.length := by omega
        go_wp2
        go_ret
        have h_ := HR2.out
        rw [List.take_length, List.drop_length, List.append_nil] at h_
        exact ⟨by first | rfl | simp, h_, HB2.out, HK2.out⟩
end Go.Proofs.Ytmoiacijklkfaaa.G

/- GKMid -/
/-
  An object amid its marking: its cells in the row's block, its five rows apart from each other and from that block.
-/
namespace Go.Proofs.Ytmoiacijklkfaaa.G
open Go.RowKit Go.Proofs.YtmoiacijklkfaaaW.PrintWords Go.Proofs.YtmoiacijklkfaaaW.PrintLast Go.Proofs.YtmoiacijklkfaaaW.PrintMore
set_option linter.unusedVariables false
structure Mid (m e : Nat) (w0 w1 : World) (g : Nat) (P S : List Value) (o : Nat) (f6 f10 f11 f15 f16 : List Nat) (v6 v10 v11 v15 v16 : Value) (wr : World) (cs : List Value) (y6 y10 : List ByteArray) (y11 : List TVal) (y15 : List ByteArray) (y16 : List TVal) : Prop where
  pl : P.length = o
  seg : Seg wr g e P cs S
  r6 : Td.string.Row 9 wr v6 y6 f6
  r10 : Td.string.Row 9 wr v10 y10 f10
  r11 : (tV m).Row 44 wr v11 y11 f11
  r15 : Td.string.Row 9 wr v15 y15 f15
  r16 : (tV m).Row 44 wr v16 y16 f16
  bel : Below w0.heap.size w0 wr
  kept : Kept w1 wr (fun k => k = g ∨ k ∈ f6 ++ ((f10 ++ f11) ++ (f15 ++ f16)))
  gb : w0.heap.size ≤ g
  gf : g ∉ f6 ++ ((f10 ++ f11) ++ (f15 ++ f16))
  nd : (f6 ++ ((f10 ++ f11) ++ (f15 ++ f16))).Nodup
  fb : ∀ k ∈ f6 ++ ((f10 ++ f11) ++ (f15 ++ f16)), w0.heap.size ≤ k
theorem app5 {α : Type} {a b c d e : List α} {k : α} : k ∈ a ++ ((b ++ c) ++ (d ++ e)) ↔ k ∈ a ∨ k ∈ b ∨ k ∈ c ∨ k ∈ d ∨ k ∈ e := by
  simp only [List.mem_append, or_assoc]
theorem nd5 {α : Type} {a b c d e : List α} (h : (a ++ ((b ++ c) ++ (d ++ e))).Nodup) : (a.Nodup ∧ b.Nodup ∧ c.Nodup ∧ d.Nodup ∧ e.Nodup) ∧ (∀ k ∈ a, k ∉ b ∧ k ∉ c ∧ k ∉ d ∧ k ∉ e) ∧ (∀ k ∈ b, k ∉ c ∧ k ∉ d ∧ k ∉ e) ∧ (∀ k ∈ c, k ∉ d ∧ k ∉ e) ∧ (∀ k ∈ d, k ∉ e) := by
  rw [List.nodup_append, List.nodup_append, List.nodup_append, List.nodup_append] at h
  obtain ⟨h1, ⟨⟨h2, h3, h23⟩, ⟨h4, h5, h45⟩, h2345⟩, h12345⟩ := h
  simp only [List.mem_append] at h2345 h12345
  refine ⟨⟨h1, h2, h3, h4, h5⟩, fun k hk => ⟨fun h => ?_, fun h => ?_, fun h => ?_, fun h => ?_⟩, fun k hk => ⟨fun h => ?_, fun h => ?_, fun h => ?_⟩, fun k hk => ⟨fun h => ?_, fun h => ?_⟩, fun k hk h => ?_⟩
  · exact h12345 k hk k (.inl (.inl h)) rfl
  · exact h12345 k hk k (.inl (.inr h)) rfl
  · exact h12345 k hk k (.inr (.inl h)) rfl
  · exact h12345 k hk k (.inr (.inr h)) rfl
  · exact h23 k hk k h rfl
  · exact h2345 k (.inl hk) k (.inl h) rfl
  · exact h2345 k (.inl hk) k (.inr h) rfl
  · exact h2345 k (.inr hk) k (.inl h) rfl
  · exact h2345 k (.inr hk) k (.inr h) rfl
  · exact h45 k hk k h rfl
namespace Mid
variable {m e : Nat} {w0 w1 : World} {g : Nat} {P S : List Value} {o : Nat} {f6 f10 f11 f15 f16 : List Nat} {v6 v10 v11 v15 v16 : Value} {wr wr' : World} {cs : List Value} {y6 y10 : List ByteArray} {y11 : List TVal} {y15 : List ByteArray} {y16 : List TVal}
theorem cell (h : Mid m e w0 w1 g P S o f6 f10 f11 f15 f16 v6 v10 v11 v15 v16 wr cs y6 y10 y11 y15 y16) (j : Nat) {u : Value} (hu : cs[j]? = some u) : wr.cell? ⟨g, o + j, none⟩ = some u := h.seg.cell h.pl hu
theorem cell0 (h : Mid m e w0 w1 g P S o f6 f10 f11 f15 f16 v6 v10 v11 v15 v16 wr cs y6 y10 y11 y15 y16) {u : Value} (hu : cs[0]? = some u) : wr.cell? ⟨g, o, none⟩ = some u := h.seg.cell0 h.pl hu
theorem frozen (h : Mid m e w0 w1 g P S o f6 f10 f11 f15 f16 v6 v10 v11 v15 v16 wr cs y6 y10 y11 y15 y16) (j : Nat) : wr.frozen? ⟨g, j, none⟩ = false := h.seg.frozen j
/-- What leaves the element's block and rows. -/
theorem below (h : Mid m e w0 w1 g P S o f6 f10 f11 f15 f16 v6 v10 v11 v15 v16 wr cs y6 y10 y11 y15 y16) (hb : Below wr.heap.size wr wr') : Mid m e w0 w1 g P S o f6 f10 f11 f15 f16 v6 v10 v11 v15 v16 wr' cs y6 y10 y11 y15 y16 :=
  ⟨h.pl, h.seg.move (hb.block _ h.seg.lt), Td.Row_below h.r6 hb, Td.Row_below h.r10 hb, Td.Row_below h.r11 hb, Td.Row_below h.r15 hb, Td.Row_below h.r16 hb, below_step h.bel hb, h.kept.below hb, h.gb, h.gf, h.nd, h.fb⟩
/-- A cell of it is stored. -/
theorem set (h : Mid m e w0 w1 g P S o f6 f10 f11 f15 f16 v6 v10 v11 v15 v16 wr cs y6 y10 y11 y15 y16) (j : Nat) (hj : j < cs.length) (u : Value) : Mid m e w0 w1 g P S o f6 f10 f11 f15 f16 v6 v10 v11 v15 v16 (wr.setCell ⟨g, o + j, none⟩ u) (cs.set j u) y6 y10 y11 y15 y16 := by
  have far : ∀ k, k ∈ f6 ++ ((f10 ++ f11) ++ (f15 ++ f16)) → (wr.setCell ⟨g, o + j, none⟩ u).heap[k]? = wr.heap[k]? := fun k hk => Below.heap_setCell _ _ _ _ (fun e_ => h.gf (by have e2 : k = g := e_; rw [← e2]; exact hk))
  exact ⟨h.pl, h.seg.put h.pl j hj u, Td.Row_move h.r6 (fun k hk => far k (app5.2 (.inl hk))), Td.Row_move h.r10 (fun k hk => far k (app5.2 (.inr (.inl hk)))), Td.Row_move h.r11 (fun k hk => far k (app5.2 (.inr (.inr (.inl hk))))), Td.Row_move h.r15 (fun k hk => far k (app5.2 (.inr (.inr (.inr (.inl hk)))))), Td.Row_move h.r16 (fun k hk => far k (app5.2 (.inr (.inr (.inr (.inr hk)))))),
    below_set h.bel h.gb, h.kept.setCell (p := ⟨g, o + j, none⟩) (.inl (.inl rfl)) u, h.gb, h.gf, h.nd, h.fb⟩
theorem set0 (h : Mid m e w0 w1 g P S o f6 f10 f11 f15 f16 v6 v10 v11 v15 v16 wr cs y6 y10 y11 y15 y16) (hj : 0 < cs.length) (u : Value) : Mid m e w0 w1 g P S o f6 f10 f11 f15 f16 v6 v10 v11 v15 v16 (wr.setCell ⟨g, o, none⟩ u) (cs.set 0 u) y6 y10 y11 y15 y16 := h.set 0 hj u
theorem in6 (h : Mid m e w0 w1 g P S o f6 f10 f11 f15 f16 v6 v10 v11 v15 v16 wr cs y6 y10 y11 y15 y16) {ys : List ByteArray} (hr : Td.string.Row 9 wr' v6 ys f6) (hb : Below w0.heap.size w0 wr') (hk : Kept wr wr' (fun k => k ∈ f6)) : Mid m e w0 w1 g P S o f6 f10 f11 f15 f16 v6 v10 v11 v15 v16 wr' cs ys y10 y11 y15 y16 := by
  obtain ⟨_, d6, d10, d11, d15⟩ := nd5 h.nd
  have mv : ∀ k, k < wr.heap.size → k ∉ f6 → wr'.heap[k]? = wr.heap[k]? := fun k hl hn => hk.2 k hl hn
  exact ⟨h.pl, h.seg.move (mv _ h.seg.lt (fun hm => h.gf (app5.2 (.inl hm)))), hr, Td.Row_move h.r10 (fun k hm => mv k (Td.Row_lt h.r10 k hm) (fun h6 => (d6 k h6).1 hm)), Td.Row_move h.r11 (fun k hm => mv k (Td.Row_lt h.r11 k hm) (fun h6 => (d6 k h6).2.1 hm)), Td.Row_move h.r15 (fun k hm => mv k (Td.Row_lt h.r15 k hm) (fun h6 => (d6 k h6).2.2.1 hm)), Td.Row_move h.r16 (fun k hm => mv k (Td.Row_lt h.r16 k hm) (fun h6 => (d6 k h6).2.2.2 hm)),
    hb, kept_trans h.kept hk (fun k hm => .inl (.inr (app5.2 (.inl hm)))), h.gb, h.gf, h.nd, h.fb⟩
theorem in10 (h : Mid m e w0 w1 g P S o f6 f10 f11 f15 f16 v6 v10 v11 v15 v16 wr cs y6 y10 y11 y15 y16) {ys : List ByteArray} (hr : Td.string.Row 9 wr' v10 ys f10) (hb : Below w0.heap.size w0 wr') (hk : Kept wr wr' (fun k => k ∈ f10)) : Mid m e w0 w1 g P S o f6 f10 f11 f15 f16 v6 v10 v11 v15 v16 wr' cs y6 ys y11 y15 y16 := by
  obtain ⟨_, d6, d10, d11, d15⟩ := nd5 h.nd
  have mv : ∀ k, k < wr.heap.size → k ∉ f10 → wr'.heap[k]? = wr.heap[k]? := fun k hl hn => hk.2 k hl hn
  exact ⟨h.pl, h.seg.move (mv _ h.seg.lt (fun hm => h.gf (app5.2 (.inr (.inl hm))))), Td.Row_move h.r6 (fun k hm => mv k (Td.Row_lt h.r6 k hm) (d6 k hm).1), hr, Td.Row_move h.r11 (fun k hm => mv k (Td.Row_lt h.r11 k hm) (fun h6 => (d10 k h6).1 hm)), Td.Row_move h.r15 (fun k hm => mv k (Td.Row_lt h.r15 k hm) (fun h6 => (d10 k h6).2.1 hm)), Td.Row_move h.r16 (fun k hm => mv k (Td.Row_lt h.r16 k hm) (fun h6 => (d10 k h6).2.2 hm)),
    hb, kept_trans h.kept hk (fun k hm => .inl (.inr (app5.2 (.inr (.inl hm))))), h.gb, h.gf, h.nd, h.fb⟩
theorem in11 (h : Mid m e w0 w1 g P S o f6 f10 f11 f15 f16 v6 v10 v11 v15 v16 wr cs y6 y10 y11 y15 y16) {ys : List TVal} (hr : (tV m).Row 44 wr' v11 ys f11) (hb : Below w0.heap.size w0 wr') (hk : Kept wr wr' (fun k => k ∈ f11)) : Mid m e w0 w1 g P S o f6 f10 f11 f15 f16 v6 v10 v11 v15 v16 wr' cs y6 y10 ys y15 y16 := by
  obtain ⟨_, d6, d10, d11, d15⟩ := nd5 h.nd
  have mv : ∀ k, k < wr.heap.size → k ∉ f11 → wr'.heap[k]? = wr.heap[k]? := fun k hl hn => hk.2 k hl hn
  exact ⟨h.pl, h.seg.move (mv _ h.seg.lt (fun hm => h.gf (app5.2 (.inr (.inr (.inl hm)))))), Td.Row_move h.r6 (fun k hm => mv k (Td.Row_lt h.r6 k hm) (d6 k hm).2.1), Td.Row_move h.r10 (fun k hm => mv k (Td.Row_lt h.r10 k hm) (d10 k hm).1), hr, Td.Row_move h.r15 (fun k hm => mv k (Td.Row_lt h.r15 k hm) (fun h6 => (d11 k h6).1 hm)), Td.Row_move h.r16 (fun k hm => mv k (Td.Row_lt h.r16 k hm) (fun h6 => (d11 k h6).2 hm)),
    hb, kept_trans h.kept hk (fun k hm => .inl (.inr (app5.2 (.inr (.inr (.inl hm)))))), h.gb, h.gf, h.nd, h.fb⟩
theorem in15 (h : Mid m e w0 w1 g P S o f6 f10 f11 f15 f16 v6 v10 v11 v15 v16 wr cs y6 y10 y11 y15 y16) {ys : List ByteArray} (hr : Td.string.Row 9 wr' v15 ys f15) (hb : Below w0.heap.size w0 wr') (hk : Kept wr wr' (fun k => k ∈ f15)) : Mid m e w0 w1 g P S o f6 f10 f11 f15 f16 v6 v10 v11 v15 v16 wr' cs y6 y10 y11 ys y16 := by
  obtain ⟨_, d6, d10, d11, d15⟩ := nd5 h.nd
  have mv : ∀ k, k < wr.heap.size → k ∉ f15 → wr'.heap[k]? = wr.heap[k]? := fun k hl hn => hk.2 k hl hn
  exact ⟨h.pl, h.seg.move (mv _ h.seg.lt (fun hm => h.gf (app5.2 (.inr (.inr (.inr (.inl hm))))))), Td.Row_move h.r6 (fun k hm => mv k (Td.Row_lt h.r6 k hm) (d6 k hm).2.2.1), Td.Row_move h.r10 (fun k hm => mv k (Td.Row_lt h.r10 k hm) (d10 k hm).2.1), Td.Row_move h.r11 (fun k hm => mv k (Td.Row_lt h.r11 k hm) (d11 k hm).1), hr, Td.Row_move h.r16 (fun k hm => mv k (Td.Row_lt h.r16 k hm) (fun h6 => d15 k h6 hm)),
    hb, kept_trans h.kept hk (fun k hm => .inl (.inr (app5.2 (.inr (.inr (.inr (.inl hm))))))), h.gb, h.gf, h.nd, h.fb⟩
theorem in16 (h : Mid m e w0 w1 g P S o f6 f10 f11 f15 f16 v6 v10 v11 v15 v16 wr cs y6 y10 y11 y15 y16) {ys : List TVal} (hr : (tV m).Row 44 wr' v16 ys f16) (hb : Below w0.heap.size w0 wr') (hk : Kept wr wr' (fun k => k ∈ f16)) : Mid m e w0 w1 g P S o f6 f10 f11 f15 f16 v6 v10 v11 v15 v16 wr' cs y6 y10 y11 y15 ys := by
  obtain ⟨_, d6, d10, d11, d15⟩ := nd5 h.nd
  have mv : ∀ k, k < wr.heap.size → k ∉ f16 → wr'.heap[k]? = wr.heap[k]? := fun k hl hn => hk.2 k hl hn
  exact ⟨h.pl, h.seg.move (mv _ h.seg.lt (fun hm => h.gf (app5.2 (.inr (.inr (.inr (.inr hm))))))), Td.Row_move h.r6 (fun k hm => mv k (Td.Row_lt h.r6 k hm) (d6 k hm).2.2.2), Td.Row_move h.r10 (fun k hm => mv k (Td.Row_lt h.r10 k hm) (d10 k hm).2.2), Td.Row_move h.r11 (fun k hm => mv k (Td.Row_lt h.r11 k hm) (d11 k hm).2), Td.Row_move h.r15 (fun k hm => mv k (Td.Row_lt h.r15 k hm) (d15 k hm)), hr,
    hb, kept_trans h.kept hk (fun k hm => .inl (.inr (app5.2 (.inr (.inr (.inr (.inr hm))))))), h.gb, h.gf, h.nd, h.fb⟩
end Mid
/-! ### an object opened whole -/
/-- The cells of an object, as a list. -/
def obL (x : IObj) (v6 v10 v11 v15 v16 : Value) : List Value := [.int .i64 x.f0, .string x.f1, .int .i64 x.f2, .int .i64 x.f3, .int .i64 x.f4, .bool x.f5, v6, .int .i64 x.f7.f0, .string x.f7.f1, .int .i64 x.f7.f2, v10, v11, .int .i64 x.f8.f0, .string x.f8.f1, .int .i64 x.f8.f2, v15, v16]
section
variable {m : Nat} {w : World} {x : IObj} {cs : List Value} {fp : List Nat}
theorem tO_open5 (h : (tO (m + 1)).T w x cs fp) : ∃ v6 v10 v11 v15 v16 f6 f10 f11 f15 f16, cs = obL x v6 v10 v11 v15 v16 ∧ fp = f6 ++ ((f10 ++ f11) ++ (f15 ++ f16)) ∧ Td.string.Row 9 w v6 x.f6 f6 ∧ Td.string.Row 9 w v10 x.f7.f3 f10 ∧ (tV m).Row 44 w v11 x.f7.f4 f11 ∧ Td.string.Row 9 w v15 x.f8.f3 f15 ∧ (tV m).Row 44 w v16 x.f8.f4 f16 := by
  obtain ⟨v6, c7, c8, f6, f7, f8, rfl, rfl, h6, h7, h8⟩ := tO_open h
  obtain ⟨v10, v11, f10, f11, rfl, rfl, h10, h11⟩ := tV_open h7
  obtain ⟨v15, v16, f15, f16, rfl, rfl, h15, h16⟩ := tV_open h8
  exact ⟨v6, v10, v11, v15, v16, f6, f10, f11, f15, f16, rfl, rfl, h6, h10, h11, h15, h16⟩
theorem tO_mk5 {v6 v10 v11 v15 v16 : Value} {f6 f10 f11 f15 f16 : List Nat} (h6 : Td.string.Row 9 w v6 x.f6 f6) (h10 : Td.string.Row 9 w v10 x.f7.f3 f10) (h11 : (tV m).Row 44 w v11 x.f7.f4 f11) (h15 : Td.string.Row 9 w v15 x.f8.f3 f15) (h16 : (tV m).Row 44 w v16 x.f8.f4 f16) :
    (tO (m + 1)).T w x (obL x v6 v10 v11 v15 v16) (f6 ++ ((f10 ++ f11) ++ (f15 ++ f16))) := tO_mk h6 (tV_mk h10 h11) (tV_mk h15 h16)
end
end Go.Proofs.Ytmoiacijklkfaaa.G

/- GKMarkO -/
/-
  markObjS, markChangeS in place.
-/
namespace Go.Proofs.Ytmoiacijklkfaaa.G
open Go.RowKit Go.Proofs.YtmoiacijklkfaaaW.PrintWords Go.Proofs.YtmoiacijklkfaaaW.PrintLast Go.Proofs.YtmoiacijklkfaaaW.PrintMore
set_option linter.unusedVariables false
set_option linter.unusedSimpArgs false
noncomputable def mkO (n : Nat) (x : IObj) (k : Int) : IObj × Int :=
  (⟨k, mt (k + 1), k + 2, k + 3, k + 4, ((k + 5) % 3 == 0), (mkL mkS x.f6 (k + 6)).1, (mkV (n + 1) x.f7 (mkL mkS x.f6 (k + 6)).2).1, (mkV (n + 1) x.f8 (mkV (n + 1) x.f7 (mkL mkS x.f6 (k + 6)).2).2).1⟩, (mkV (n + 1) x.f8 (mkV (n + 1) x.f7 (mkL mkS x.f6 (k + 6)).2).2).2)
theorem mkO_mono (n : Nat) (x : IObj) (k : Int) : k ≤ (mkO n x k).2 := by
  have h1 := mkS_count x.f6 (k + 6)
  have h2 := mkV_mono (n + 1) x.f7 (mkL mkS x.f6 (k + 6)).2
  have h3 := mkV_mono (n + 1) x.f8 (mkV (n + 1) x.f7 (mkL mkS x.f6 (k + 6)).2).2
  unfold mkO
  show k ≤ (mkV (n + 1) x.f8 (mkV (n + 1) x.f7 (mkL mkS x.f6 (k + 6)).2).2).2
  omega
noncomputable def mkC (n : Nat) (x : IChg) (k : Int) : IChg × Int := (⟨k, ((k + 1) % 3 == 0), (mkO n x.f2 (k + 2)).1⟩, (mkO n x.f2 (k + 2)).2)
theorem mkC_mono (n : Nat) (x : IChg) (k : Int) : k ≤ (mkC n x k).2 := by
  have h := mkO_mono n x.f2 (k + 2)
  show k ≤ (mkO n x.f2 (k + 2)).2
  omega
set_option maxHeartbeats 16000000 in
set_option maxRecDepth 100000 in
theorem markOs_calls (n : Nat) (xs : List IObj) (v : Value) (fp : List Nat) (k0 : Int) (w0 w : World) (hB : Below w0.heap.size w0 w) (hr : (tO (n + 1)).Row 46 w v xs fp) (hn : fp.Nodup) (hb : ∀ k ∈ fp, w0.heap.size ≤ k) (h0 : 0 ≤ k0) (h1 : (mkL (mkO n) xs k0).2 ≤ 1099511627776) :
    Calls Try.prog 32 #[v, .int .i64 k0] w fun e w' => e = .returned (.int .i64 (mkL (mkO n) xs k0).2) ∧ (tO (n + 1)).Row 46 w' v (mkL (mkO n) xs k0).1 fp ∧ Below w0.heap.size w0 w' ∧ Kept w w' (fun k => k ∈ fp) := by
  obtain ⟨A, c, rfl⟩ := Td.Row_slice hr
  have hlen : xs.length ≤ 9223372036854775807 := by
    obtain ⟨_, _, _, _, hC⟩ := tO_C hr
    exact hC.2.1
  have HR := Lib.hid hr
  have HB := Lib.hid hB
  have HN := Lib.hid hn
  have HBS := Lib.hid hb
  clear hr hB hn hb
  go_enter Try.func32, Try.ntmps32
  go_wp2
  go_loopw [1, 5] (fun vk vi wr => ∃ i : Nat, i ≤ xs.length ∧ vk = .int .i64 (mkL (mkO n) (xs.take i) k0).2 ∧ vi = .int .i64 i ∧ Hid ((tO (n + 1)).Row 46 wr (.slice A xs.length c) ((mkL (mkO n) (xs.take i) k0).1 ++ xs.drop i) fp) ∧ Hid (Below w0.heap.size w0 wr) ∧ Hid (Kept w wr (fun k => k ∈ fp))) (fun _ vi _ => xs.length - (intOf vi).toNat)
  case atStart => exact ⟨0, by omega, rfl, rfl, HR, HB, Kept.refl _ _⟩
  case round =>
    obtain ⟨i, hi, rfl, rfl, HR2, HB2, HK2⟩ := hrel
    by_cases hlt : i < xs.length
    · have hP : (mkL (mkO n) (xs.take i) k0).1.length = i := by rw [mkL_len, List.length_take]; omega
      have hnext := mkL_snoc (mkO n) (xs.take i) xs[i] k0
      rw [← List.take_succ_eq_append_getElem hlt] at hnext
      have hle := mkL_take_le (mkO_mono n) xs (i + 1) k0
      have hk0 := mkL_mono (mkO_mono n) (xs.take i) k0
      have HR3 := HR2.out
      rw [List.drop_eq_getElem_cons hlt] at HR3
      have HR4 := Lib.hid HR3
      clear HR2 HR HB
      obtain ⟨K, hK⟩ : ∃ K, (mkL (mkO n) (xs.take i) k0).2 = K := ⟨_, rfl⟩
      obtain ⟨Q, hQe⟩ : ∃ Q, (mkL (mkO n) (xs.take i) k0).1 = Q := ⟨_, rfl⟩
      rw [hQe] at hP HR3 hnext
      rw [hK] at hnext hk0 ⊢
      rw [hnext] at hle
      have hsl : (Q ++ xs[i] :: xs.drop (i + 1)).length = xs.length := by rw [List.length_append, List.length_cons, List.length_drop, hP]; omega
      obtain ⟨g, cap, P, cs, S, f, hv, hcap, hseg, hPl, hT, hg, hgf, hfn, hfs, hclose⟩ := Td.Row_split HR3 HN.out (i := i) (by rw [hsl]; exact hlt)
      have hxi : (Q ++ xs[i] :: xs.drop (i + 1))[i]'(by rw [hsl]; exact hlt) = xs[i] := by
        rw [List.getElem_append_right (by omega)]; simp [hP]
      have hset : ∀ y, (Q ++ xs[i] :: xs.drop (i + 1)).set i y = Q ++ y :: xs.drop (i + 1) := fun y => set_at _ _ _ _ hP
      simp only [hset] at hclose
      rw [hxi] at hT
      rw [tO_sz] at hPl
      rw [hsl] at hv hcap
      injection hv with hv _ hv2
      subst hv
      subst hv2
      obtain ⟨v6, v10, v11, v15, v16, f6, f10, f11, f15, f16, rfl, rfl, h6, h10, h11, h15, h16⟩ := tO_open5 hT
      have hM : Mid n 46 w0 wr g P S (i * 17) f6 f10 f11 f15 f16 v6 v10 v11 v15 v16 wr (obL xs[i] v6 v10 v11 v15 v16) xs[i].f6 xs[i].f7.f3 xs[i].f7.f4 xs[i].f8.f3 xs[i].f8.f4 :=
        ⟨hPl, hseg, h6, h10, h11, h15, h16, HB2.out, Kept.refl _ _, HBS.out g hg, hgf, hfn, fun k hk => HBS.out k (hfs k hk)⟩
      obtain ⟨K1, hK1⟩ : ∃ K1, (mkL mkS xs[i].f6 (K + 6)).2 = K1 := ⟨_, rfl⟩
      obtain ⟨K2, hK2⟩ : ∃ K2, (mkL mkS xs[i].f7.f3 (K1 + 3)).2 = K2 := ⟨_, rfl⟩
      obtain ⟨K3, hK3⟩ : ∃ K3, (mkL (mkV n) xs[i].f7.f4 K2).2 = K3 := ⟨_, rfl⟩
      obtain ⟨K4, hK4⟩ : ∃ K4, (mkL mkS xs[i].f8.f3 (K3 + 3)).2 = K4 := ⟨_, rfl⟩
      obtain ⟨K5, hK5⟩ : ∃ K5, (mkL (mkV n) xs[i].f8.f4 K4).2 = K5 := ⟨_, rfl⟩
      have hmk : mkO n xs[i] K = (⟨K, mt (K + 1), K + 2, K + 3, K + 4, ((K + 5) % 3 == 0), (mkL mkS xs[i].f6 (K + 6)).1, ⟨K1, mt (K1 + 1), K1 + 2, (mkL mkS xs[i].f7.f3 (K1 + 3)).1, (mkL (mkV n) xs[i].f7.f4 K2).1⟩, ⟨K3, mt (K3 + 1), K3 + 2, (mkL mkS xs[i].f8.f3 (K3 + 3)).1, (mkL (mkV n) xs[i].f8.f4 K4).1⟩⟩, K5) := by
        subst hK5 hK4 hK3 hK2 hK1
        rfl
      have b1 : (K1 : Int) = K + 6 + xs[i].f6.length := by rw [← hK1]; exact mkS_count _ _
      have b2 : (K2 : Int) = K1 + 3 + xs[i].f7.f3.length := by rw [← hK2]; exact mkS_count _ _
      have b3 : K2 ≤ K3 := by rw [← hK3]; exact mkL_mono (mkV_mono n) _ _
      have b4 : (K4 : Int) = K3 + 3 + xs[i].f8.f3.length := by rw [← hK4]; exact mkS_count _ _
      have b5 : K4 ≤ K5 := by rw [← hK5]; exact mkL_mono (mkV_mono n) _ _
      rw [hmk] at hnext hle
      have b6 : K5 ≤ 1099511627776 := Int.le_trans hle h1
      have E1 := Lib.hid hK1
      have E2 := Lib.hid hK2
      have E3 := Lib.hid hK3
      have E4 := Lib.hid hK4
      have E5 := Lib.hid hK5
      have HM0 := Lib.hid hM
      have HCL := Lib.hid hclose
      have HNX := Lib.hid hnext
      have HQP := Lib.hid hP
      have HFS := Lib.hid hfs
      have HG := Lib.hid hg
      have B1 := Lib.hid b1
      have B2 := Lib.hid b2
      have B3 := Lib.hid b3
      have B4 := Lib.hid b4
      have B5 := Lib.hid b5
      have B6 := Lib.hid b6
      have H1 := Lib.hid h1
      have hKle : K + 6 ≤ 1099511627776 := by omega
      have hK1le : K1 + 3 ≤ 1099511627776 := by omega
      have hK3le : K3 + 3 ≤ 1099511627776 := by omega
      have hK10 : 0 ≤ K1 := by omega
      have hK30 : 0 ≤ K3 := by omega
      have hK0 : 0 ≤ K := by omega
      clear hP hnext hle hk0 hsl hseg hPl hT hg hgf hfn hfs hclose hxi hset h6 h10 h11 h15 h16 hM hmk b1 b2 b3 b4 b5 b6 hK1 hK2 hK3 hK4 hK5 hQe hK HR3 h1 hcap
      obtain ⟨q1, hq1⟩ := mt_ev (K + 1) (by omega) (by omega)
      obtain ⟨q2, hq2⟩ := mt_ev (K1 + 1) (by omega) (by omega)
      obtain ⟨q3, hq3⟩ := mt_ev (K3 + 1) (by omega) (by omega)
      have HQ1 := Lib.hid (hq1 q1 (Nat.le_refl _))
      have HQ2 := Lib.hid (hq2 q2 (Nat.le_refl _))
      have HQ3 := Lib.hid (hq3 q3 (Nat.le_refl _))
      clear hq1 hq2 hq3
      have d0 := HM0.out.cell0 rfl
      have f0 := HM0.out.frozen (i * 17)
      have HM1 := Lib.hid (HM0.out.set0 (by simp [obL]) (.int .i64 (K)))
      clear HM0
      go_wp2_with fail
      try simp only [Int.add_assoc, Int.reduceAdd]
      (with_reducible refine (laws_markText.calls q1 (K + 1) _ _ HQ1.out).mono ?_)
      rintro e w2 ⟨rfl, hb2⟩
      have HM2 := Lib.hid (HM1.out.below hb2)
      clear hb2 HM1
      clear d0 f0
      have d1 := HM2.out.cell 1 rfl
      have f1 := HM2.out.frozen (i * 17 + 1)
      have d2 := HM2.out.cell 2 rfl
      have f2 := HM2.out.frozen (i * 17 + 2)
      have d3 := HM2.out.cell 3 rfl
      have f3 := HM2.out.frozen (i * 17 + 3)
      have d4 := HM2.out.cell 4 rfl
      have f4 := HM2.out.frozen (i * 17 + 4)
      have d5 := HM2.out.cell 5 rfl
      have f5 := HM2.out.frozen (i * 17 + 5)
      have d6 := HM2.out.cell 6 rfl
      have HM3 := Lib.hid (((((HM2.out.set 1 (by simp [obL]) (.string (mt (K + 1)))).set 2 (by simp [obL]) (.int .i64 (K + 2))).set 3 (by simp [obL]) (.int .i64 (K + 3))).set 4 (by simp [obL]) (.int .i64 (K + 4))).set 5 (by simp [obL]) (.bool ((K + 5) % 3 == 0)))
      clear HM2
      go_wp2_with fail
      try simp only [Int.add_assoc, Int.reduceAdd]
      (with_reducible refine (markStrs_calls xs[i].f6 v6 f6 (K + 6) w0 _ HM3.out.bel HM3.out.r6 (fun k hk => HM3.out.fb k (app5.2 (.inl hk))) (by omega) (by have := B1.out; omega)).mono ?_)
      rintro e w3 ⟨rfl, hr3, hb3, hk3⟩
      rw [E1.out]
      have HM4 := Lib.hid (HM3.out.in6 hr3 hb3 hk3)
      clear hr3 hb3 hk3 HM3 d6
      clear d1 f1 d2 f2 d3 f3 d4 f4 d5 f5
      have d7 := HM4.out.cell 7 rfl
      have f7 := HM4.out.frozen (i * 17 + 7)
      have HM5 := Lib.hid (HM4.out.set 7 (by simp [obL]) (.int .i64 K1))
      clear HM4
      go_wp2_with fail
      try simp only [Int.add_assoc, Int.reduceAdd]
      (with_reducible refine (laws_markText.calls q2 (K1 + 1) _ _ HQ2.out).mono ?_)
      rintro e w4 ⟨rfl, hb4⟩
      have HM6 := Lib.hid (HM5.out.below hb4)
      clear hb4 HM5
      clear d7 f7
      have d8 := HM6.out.cell 8 rfl
      have f8 := HM6.out.frozen (i * 17 + 8)
      have d9 := HM6.out.cell 9 rfl
      have f9 := HM6.out.frozen (i * 17 + 9)
      have d10 := HM6.out.cell 10 rfl
      have HM7 := Lib.hid ((HM6.out.set 8 (by simp [obL]) (.string (mt (K1 + 1)))).set 9 (by simp [obL]) (.int .i64 (K1 + 2)))
      clear HM6
      go_wp2_with fail
      try simp only [Int.add_assoc, Int.reduceAdd]
      (with_reducible refine (markStrs_calls xs[i].f7.f3 v10 f10 (K1 + 3) w0 _ HM7.out.bel HM7.out.r10 (fun k hk => HM7.out.fb k (app5.2 (.inr (.inl hk)))) (by omega) (by have := B2.out; have h3 := B3.out; have h4 := B4.out; have h5 := B5.out; have h6 := B6.out; omega)).mono ?_)
      rintro e w5 ⟨rfl, hr, hb, hk⟩
      rw [E2.out]
      have HM8 := Lib.hid (HM7.out.in10 hr hb hk)
      clear hr hb hk HM7 d10
      clear d8 f8 d9 f9
      have d11 := HM8.out.cell 11 rfl
      go_wp2_with fail
      (with_reducible refine (markValueS_calls n xs[i].f7.f4 v11 f11 K2 w0 _ HM8.out.bel HM8.out.r11 (nd5 HM8.out.nd).1.2.2.1 (fun k hk => HM8.out.fb k (app5.2 (.inr (.inr (.inl hk))))) (by have := B2.out; omega) (by rw [E3.out]; have := B3.out; have := B4.out; have := B5.out; have := B6.out; omega)).mono ?_)
      rintro e w6 ⟨rfl, hr, hb, hk⟩
      rw [E3.out]
      have HM9 := Lib.hid (HM8.out.in11 hr hb hk)
      clear hr hb hk HM8 d11
      have d12 := HM9.out.cell 12 rfl
      have f12 := HM9.out.frozen (i * 17 + 12)
      have HM10 := Lib.hid (HM9.out.set 12 (by simp [obL]) (.int .i64 K3))
      clear HM9
      go_wp2_with fail
      try simp only [Int.add_assoc, Int.reduceAdd]
      (with_reducible refine (laws_markText.calls q3 (K3 + 1) _ _ HQ3.out).mono ?_)
      rintro e w7 ⟨rfl, hb7⟩
      have HM11 := Lib.hid (HM10.out.below hb7)
      clear hb7 HM10
      clear d12 f12
      have d13 := HM11.out.cell 13 rfl
      have f13 := HM11.out.frozen (i * 17 + 13)
      have d14 := HM11.out.cell 14 rfl
      have f14 := HM11.out.frozen (i * 17 + 14)
      have d15 := HM11.out.cell 15 rfl
      have HM12 := Lib.hid ((HM11.out.set 13 (by simp [obL]) (.string (mt (K3 + 1)))).set 14 (by simp [obL]) (.int .i64 (K3 + 2)))
      clear HM11
      go_wp2_with fail
      try simp only [Int.add_assoc, Int.reduceAdd]
      (with_reducible refine (markStrs_calls xs[i].f8.f3 v15 f15 (K3 + 3) w0 _ HM12.out.bel HM12.out.r15 (fun k hk => HM12.out.fb k (app5.2 (.inr (.inr (.inr (.inl hk)))))) (by omega) (by have := B4.out; have h3 := B3.out; have h4 := B4.out; have h5 := B5.out; have h6 := B6.out; omega)).mono ?_)
      rintro e w8 ⟨rfl, hr, hb, hk⟩
      rw [E4.out]
      have HM13 := Lib.hid (HM12.out.in15 hr hb hk)
      clear hr hb hk HM12 d15
      clear d13 f13 d14 f14
      have d16 := HM13.out.cell 16 rfl
      go_wp2_with fail
      (with_reducible refine (markValueS_calls n xs[i].f8.f4 v16 f16 K4 w0 _ HM13.out.bel HM13.out.r16 (nd5 HM13.out.nd).1.2.2.2.2 (fun k hk => HM13.out.fb k (app5.2 (.inr (.inr (.inr (.inr hk)))))) (by have := B4.out; omega) (by rw [E5.out]; have := B3.out; have := B4.out; have := B5.out; have := B6.out; omega)).mono ?_)
      rintro e w9 ⟨rfl, hr, hb, hk⟩
      rw [E5.out]
      have HM14 := Lib.hid (HM13.out.in16 hr hb hk)
      clear hr hb hk HM13 d16
      have HMZ := HM14.out
      have hz := HCL.out w9 ⟨K, mt (K + 1), K + 2, K + 3, K + 4, ((K + 5) % 3 == 0), (mkL mkS xs[i].f6 (K + 6)).1, ⟨K1, mt (K1 + 1), K1 + 2, (mkL mkS xs[i].f7.f3 (K1 + 3)).1, (mkL (mkV n) xs[i].f7.f4 K2).1⟩, ⟨K3, mt (K3 + 1), K3 + 2, (mkL mkS xs[i].f8.f3 (K3 + 3)).1, (mkL (mkV n) xs[i].f8.f4 K4).1⟩⟩ _ HMZ.seg (tO_mk5 (x := ⟨K, mt (K + 1), K + 2, K + 3, K + 4, ((K + 5) % 3 == 0), (mkL mkS xs[i].f6 (K + 6)).1, ⟨K1, mt (K1 + 1), K1 + 2, (mkL mkS xs[i].f7.f3 (K1 + 3)).1, (mkL (mkV n) xs[i].f7.f4 K2).1⟩, ⟨K3, mt (K3 + 1), K3 + 2, (mkL mkS xs[i].f8.f3 (K3 + 3)).1, (mkL (mkV n) xs[i].f8.f4 K4).1⟩⟩) HMZ.r6 HMZ.r10 HMZ.r11 HMZ.r15 HMZ.r16) (fun k hk hkg hkf => HMZ.kept.2 k (Td.Row_lt HR4.out k hk) (fun h => h.elim hkg hkf))
      have HZ := Lib.hid hz
      have HBZ := Lib.hid HMZ.bel
      have HKZ := Lib.hid (kept_trans HK2.out HMZ.kept (fun k hk => .inl (hk.elim (fun h => h ▸ HG.out) (fun h => HFS.out k h))))
      clear HMZ hz HM14
      go_wp2
      go_roundw
      case rel =>
        refine ⟨i + 1, by omega, ?_, by go_num, ?_, HBZ, HKZ⟩
        · rw [HNX.out]
        · have h_ := HZ.out
          unfold Hid
          rw [HNX.out]
          simp only [List.append_assoc, List.singleton_append]
          exact h_
      case measure => simp [intOf]; omega
    · obtain rfl : i = xs.length := by omega
      go_wp2
      go_ret
      have h_ := HR2.out
      rw [List.take_length, List.drop_length, List.append_nil] at h_
      exact ⟨by first | rfl | simp, h_, HB2.out, HK2.out⟩
end Go.Proofs.Ytmoiacijklkfaaa.G

/- GKMarkC -/
/-
  markChangeS in place.
-/
namespace Go.Proofs.Ytmoiacijklkfaaa.G
open Go.RowKit Go.Proofs.YtmoiacijklkfaaaW.PrintWords Go.Proofs.YtmoiacijklkfaaaW.PrintLast Go.Proofs.YtmoiacijklkfaaaW.PrintMore
set_option linter.unusedVariables false
set_option linter.unusedSimpArgs false
set_option maxHeartbeats 16000000 in
set_option maxRecDepth 100000 in
theorem markCs_calls (n : Nat) (xs : List IChg) (v : Value) (fp : List Nat) (k0 : Int) (w0 w : World) (hB : Below w0.heap.size w0 w) (hr : (tC (n + 1)).Row 90 w v xs fp) (hn : fp.Nodup) (hb : ∀ k ∈ fp, w0.heap.size ≤ k) (h0 : 0 ≤ k0) (h1 : (mkL (mkC n) xs k0).2 ≤ 1099511627776) :
    Calls Try.prog 66 #[v, .int .i64 k0] w fun e w' => e = .returned (.int .i64 (mkL (mkC n) xs k0).2) ∧ (tC (n + 1)).Row 90 w' v (mkL (mkC n) xs k0).1 fp ∧ Below w0.heap.size w0 w' ∧ Kept w w' (fun k => k ∈ fp) := by
  obtain ⟨A, c, rfl⟩ := Td.Row_slice hr
  have hlen : xs.length ≤ 9223372036854775807 := by
    obtain ⟨_, _, _, _, hC⟩ := tC_C hr
    exact hC.2.1
  have HR := Lib.hid hr
  have HB := Lib.hid hB
  have HN := Lib.hid hn
  have HBS := Lib.hid hb
  clear hr hB hn hb
  go_enter Try.func66, Try.ntmps66
  go_wp2
  go_loopw [1, 5] (fun vk vi wr => ∃ i : Nat, i ≤ xs.length ∧ vk = .int .i64 (mkL (mkC n) (xs.take i) k0).2 ∧ vi = .int .i64 i ∧ Hid ((tC (n + 1)).Row 90 wr (.slice A xs.length c) ((mkL (mkC n) (xs.take i) k0).1 ++ xs.drop i) fp) ∧ Hid (Below w0.heap.size w0 wr) ∧ Hid (Kept w wr (fun k => k ∈ fp))) (fun _ vi _ => xs.length - (intOf vi).toNat)
  case atStart => exact ⟨0, by omega, rfl, rfl, HR, HB, Kept.refl _ _⟩
  case round =>
    obtain ⟨i, hi, rfl, rfl, HR2, HB2, HK2⟩ := hrel
    by_cases hlt : i < xs.length
    · have hP : (mkL (mkC n) (xs.take i) k0).1.length = i := by rw [mkL_len, List.length_take]; omega
      have hnext := mkL_snoc (mkC n) (xs.take i) xs[i] k0
      rw [← List.take_succ_eq_append_getElem hlt] at hnext
      have hle := mkL_take_le (mkC_mono n) xs (i + 1) k0
      have hk0 := mkL_mono (mkC_mono n) (xs.take i) k0
      have HR3 := HR2.out
      rw [List.drop_eq_getElem_cons hlt] at HR3
      have HR4 := Lib.hid HR3
      clear HR2 HR HB
      obtain ⟨K, hK⟩ : ∃ K, (mkL (mkC n) (xs.take i) k0).2 = K := ⟨_, rfl⟩
      obtain ⟨Q, hQe⟩ : ∃ Q, (mkL (mkC n) (xs.take i) k0).1 = Q := ⟨_, rfl⟩
      rw [hQe] at hP HR3 hnext
      rw [hK] at hnext hk0 ⊢
      rw [hnext] at hle
      have hsl : (Q ++ xs[i] :: xs.drop (i + 1)).length = xs.length := by rw [List.length_append, List.length_cons, List.length_drop, hP]; omega
      obtain ⟨g, cap, P, cs, S, f, hv, hcap, hseg, hPl, hT, hg, hgf, hfn, hfs, hclose⟩ := Td.Row_split HR3 HN.out (i := i) (by rw [hsl]; exact hlt)
      have hxi : (Q ++ xs[i] :: xs.drop (i + 1))[i]'(by rw [hsl]; exact hlt) = xs[i] := by
        rw [List.getElem_append_right (by omega)]; simp [hP]
      have hset : ∀ y, (Q ++ xs[i] :: xs.drop (i + 1)).set i y = Q ++ y :: xs.drop (i + 1) := fun y => set_at _ _ _ _ hP
      simp only [hset] at hclose
      rw [hxi] at hT
      rw [tC_sz] at hPl
      rw [hsl] at hv hcap
      injection hv with hv _ hv2
      subst hv
      subst hv2
      obtain ⟨cs2, rfl, hT2⟩ := tC_open hT
      obtain ⟨v6, v10, v11, v15, v16, f6, f10, f11, f15, f16, rfl, rfl, h6, h10, h11, h15, h16⟩ := tO_open5 hT2
      have hM : Mid n 90 w0 wr g P S (i * 19) f6 f10 f11 f15 f16 v6 v10 v11 v15 v16 wr (.int .i64 xs[i].f0 :: .bool xs[i].f1 :: obL xs[i].f2 v6 v10 v11 v15 v16) xs[i].f2.f6 xs[i].f2.f7.f3 xs[i].f2.f7.f4 xs[i].f2.f8.f3 xs[i].f2.f8.f4 :=
        ⟨hPl, hseg, h6, h10, h11, h15, h16, HB2.out, Kept.refl _ _, HBS.out g hg, hgf, hfn, fun k hk => HBS.out k (hfs k hk)⟩
      obtain ⟨K1, hK1⟩ : ∃ K1, (mkL mkS xs[i].f2.f6 (K + 8)).2 = K1 := ⟨_, rfl⟩
      obtain ⟨K2, hK2⟩ : ∃ K2, (mkL mkS xs[i].f2.f7.f3 (K1 + 3)).2 = K2 := ⟨_, rfl⟩
      obtain ⟨K3, hK3⟩ : ∃ K3, (mkL (mkV n) xs[i].f2.f7.f4 K2).2 = K3 := ⟨_, rfl⟩
      obtain ⟨K4, hK4⟩ : ∃ K4, (mkL mkS xs[i].f2.f8.f3 (K3 + 3)).2 = K4 := ⟨_, rfl⟩
      obtain ⟨K5, hK5⟩ : ∃ K5, (mkL (mkV n) xs[i].f2.f8.f4 K4).2 = K5 := ⟨_, rfl⟩
      have hmk : mkC n xs[i] K = (⟨K, ((K + 1) % 3 == 0), ⟨K + 2, mt (K + 3), K + 4, K + 5, K + 6, ((K + 7) % 3 == 0), (mkL mkS xs[i].f2.f6 (K + 8)).1, ⟨K1, mt (K1 + 1), K1 + 2, (mkL mkS xs[i].f2.f7.f3 (K1 + 3)).1, (mkL (mkV n) xs[i].f2.f7.f4 K2).1⟩, ⟨K3, mt (K3 + 1), K3 + 2, (mkL mkS xs[i].f2.f8.f3 (K3 + 3)).1, (mkL (mkV n) xs[i].f2.f8.f4 K4).1⟩⟩⟩, K5) := by
        subst hK5 hK4 hK3 hK2 hK1
        unfold mkC mkO; simp only [Int.add_assoc]; rfl
      have b1 : (K1 : Int) = K + 8 + xs[i].f2.f6.length := by rw [← hK1]; exact mkS_count _ _
      have b2 : (K2 : Int) = K1 + 3 + xs[i].f2.f7.f3.length := by rw [← hK2]; exact mkS_count _ _
      have b3 : K2 ≤ K3 := by rw [← hK3]; exact mkL_mono (mkV_mono n) _ _
      have b4 : (K4 : Int) = K3 + 3 + xs[i].f2.f8.f3.length := by rw [← hK4]; exact mkS_count _ _
      have b5 : K4 ≤ K5 := by rw [← hK5]; exact mkL_mono (mkV_mono n) _ _
      rw [hmk] at hnext hle
      have b6 : K5 ≤ 1099511627776 := Int.le_trans hle h1
      have E1 := Lib.hid hK1
      have E2 := Lib.hid hK2
      have E3 := Lib.hid hK3
      have E4 := Lib.hid hK4
      have E5 := Lib.hid hK5
      have HM0 := Lib.hid hM
      have HCL := Lib.hid hclose
      have HNX := Lib.hid hnext
      have HQP := Lib.hid hP
      have HFS := Lib.hid hfs
      have HG := Lib.hid hg
      have B1 := Lib.hid b1
      have B2 := Lib.hid b2
      have B3 := Lib.hid b3
      have B4 := Lib.hid b4
      have B5 := Lib.hid b5
      have B6 := Lib.hid b6
      have H1 := Lib.hid h1
      have hKle : K + 8 ≤ 1099511627776 := by omega
      have hK1le : K1 + 3 ≤ 1099511627776 := by omega
      have hK3le : K3 + 3 ≤ 1099511627776 := by omega
      have hK10 : 0 ≤ K1 := by omega
      have hK30 : 0 ≤ K3 := by omega
      have hK0 : 0 ≤ K := by omega
      clear hP hnext hle hk0 hsl hseg hPl hT hg hgf hfn hfs hclose hxi hset h6 h10 h11 h15 h16 hM hmk b1 b2 b3 b4 b5 b6 hK1 hK2 hK3 hK4 hK5 hQe hK HR3 h1 hcap
      obtain ⟨q1, hq1⟩ := mt_ev (K + 3) (by omega) (by omega)
      obtain ⟨q2, hq2⟩ := mt_ev (K1 + 1) (by omega) (by omega)
      obtain ⟨q3, hq3⟩ := mt_ev (K3 + 1) (by omega) (by omega)
      have HQ1 := Lib.hid (hq1 q1 (Nat.le_refl _))
      have HQ2 := Lib.hid (hq2 q2 (Nat.le_refl _))
      have HQ3 := Lib.hid (hq3 q3 (Nat.le_refl _))
      clear hq1 hq2 hq3
      have dm2 := HM0.out.cell0 rfl
      have fm2 := HM0.out.frozen (i * 19)
      have dm1 := HM0.out.cell 1 rfl
      have fm1 := HM0.out.frozen (i * 19 + 1)
      have d0 := HM0.out.cell 2 rfl
      have f0 := HM0.out.frozen (i * 19 + 2)
      have HM1 := Lib.hid (((HM0.out.set0 (by simp [obL]) (.int .i64 K)).set 1 (by simp [obL]) (.bool ((K + 1) % 3 == 0))).set 2 (by simp [obL]) (.int .i64 (K + 2)))
      clear HM0
      go_wp2_with fail
      try simp only [Int.add_assoc, Int.reduceAdd]
      (with_reducible refine (laws_markText.calls q1 (K + 3) _ _ HQ1.out).mono ?_)
      rintro e w2 ⟨rfl, hb2⟩
      have HM2 := Lib.hid (HM1.out.below hb2)
      clear hb2 HM1
      clear dm2 fm2 dm1 fm1 d0 f0
      have d1 := HM2.out.cell 3 rfl
      have f1 := HM2.out.frozen (i * 19 + 3)
      have d2 := HM2.out.cell 4 rfl
      have f2 := HM2.out.frozen (i * 19 + 4)
      have d3 := HM2.out.cell 5 rfl
      have f3 := HM2.out.frozen (i * 19 + 5)
      have d4 := HM2.out.cell 6 rfl
      have f4 := HM2.out.frozen (i * 19 + 6)
      have d5 := HM2.out.cell 7 rfl
      have f5 := HM2.out.frozen (i * 19 + 7)
      have d6 := HM2.out.cell 8 rfl
      have HM3 := Lib.hid (((((HM2.out.set 3 (by simp [obL]) (.string (mt (K + 3)))).set 4 (by simp [obL]) (.int .i64 (K + 4))).set 5 (by simp [obL]) (.int .i64 (K + 5))).set 6 (by simp [obL]) (.int .i64 (K + 6))).set 7 (by simp [obL]) (.bool ((K + 7) % 3 == 0)))
      clear HM2
      go_wp2_with fail
      try simp only [Int.add_assoc, Int.reduceAdd]
      (with_reducible refine (markStrs_calls xs[i].f2.f6 v6 f6 (K + 8) w0 _ HM3.out.bel HM3.out.r6 (fun k hk => HM3.out.fb k (app5.2 (.inl hk))) (by omega) (by have := B1.out; omega)).mono ?_)
      rintro e w3 ⟨rfl, hr3, hb3, hk3⟩
      rw [E1.out]
      have HM4 := Lib.hid (HM3.out.in6 hr3 hb3 hk3)
      clear hr3 hb3 hk3 HM3 d6
      clear d1 f1 d2 f2 d3 f3 d4 f4 d5 f5
      have d7 := HM4.out.cell 9 rfl
      have f7 := HM4.out.frozen (i * 19 + 9)
      have HM5 := Lib.hid (HM4.out.set 9 (by simp [obL]) (.int .i64 K1))
      clear HM4
      go_wp2_with fail
      try simp only [Int.add_assoc, Int.reduceAdd]
      (with_reducible refine (laws_markText.calls q2 (K1 + 1) _ _ HQ2.out).mono ?_)
      rintro e w4 ⟨rfl, hb4⟩
      have HM6 := Lib.hid (HM5.out.below hb4)
      clear hb4 HM5
      clear d7 f7
      have d8 := HM6.out.cell 10 rfl
      have f8 := HM6.out.frozen (i * 19 + 10)
      have d9 := HM6.out.cell 11 rfl
      have f9 := HM6.out.frozen (i * 19 + 11)
      have d10 := HM6.out.cell 12 rfl
      have HM7 := Lib.hid ((HM6.out.set 10 (by simp [obL]) (.string (mt (K1 + 1)))).set 11 (by simp [obL]) (.int .i64 (K1 + 2)))
      clear HM6
      go_wp2_with fail
      try simp only [Int.add_assoc, Int.reduceAdd]
      (with_reducible refine (markStrs_calls xs[i].f2.f7.f3 v10 f10 (K1 + 3) w0 _ HM7.out.bel HM7.out.r10 (fun k hk => HM7.out.fb k (app5.2 (.inr (.inl hk)))) (by omega) (by have := B2.out; have h3 := B3.out; have h4 := B4.out; have h5 := B5.out; have h6 := B6.out; omega)).mono ?_)
      rintro e w5 ⟨rfl, hr, hb, hk⟩
      rw [E2.out]
      have HM8 := Lib.hid (HM7.out.in10 hr hb hk)
      clear hr hb hk HM7 d10
      clear d8 f8 d9 f9
      have d11 := HM8.out.cell 13 rfl
      go_wp2_with fail
      (with_reducible refine (markValueS_calls n xs[i].f2.f7.f4 v11 f11 K2 w0 _ HM8.out.bel HM8.out.r11 (nd5 HM8.out.nd).1.2.2.1 (fun k hk => HM8.out.fb k (app5.2 (.inr (.inr (.inl hk))))) (by have := B2.out; omega) (by rw [E3.out]; have := B3.out; have := B4.out; have := B5.out; have := B6.out; omega)).mono ?_)
      rintro e w6 ⟨rfl, hr, hb, hk⟩
      rw [E3.out]
      have HM9 := Lib.hid (HM8.out.in11 hr hb hk)
      clear hr hb hk HM8 d11
      have d12 := HM9.out.cell 14 rfl
      have f12 := HM9.out.frozen (i * 19 + 14)
      have HM10 := Lib.hid (HM9.out.set 14 (by simp [obL]) (.int .i64 K3))
      clear HM9
      go_wp2_with fail
      try simp only [Int.add_assoc, Int.reduceAdd]
      (with_reducible refine (laws_markText.calls q3 (K3 + 1) _ _ HQ3.out).mono ?_)
      rintro e w7 ⟨rfl, hb7⟩
      have HM11 := Lib.hid (HM10.out.below hb7)
      clear hb7 HM10
      clear d12 f12
      have d13 := HM11.out.cell 15 rfl
      have f13 := HM11.out.frozen (i * 19 + 15)
      have d14 := HM11.out.cell 16 rfl
      have f14 := HM11.out.frozen (i * 19 + 16)
      have d15 := HM11.out.cell 17 rfl
      have HM12 := Lib.hid ((HM11.out.set 15 (by simp [obL]) (.string (mt (K3 + 1)))).set 16 (by simp [obL]) (.int .i64 (K3 + 2)))
      clear HM11
      go_wp2_with fail
      try simp only [Int.add_assoc, Int.reduceAdd]
      (with_reducible refine (markStrs_calls xs[i].f2.f8.f3 v15 f15 (K3 + 3) w0 _ HM12.out.bel HM12.out.r15 (fun k hk => HM12.out.fb k (app5.2 (.inr (.inr (.inr (.inl hk)))))) (by omega) (by have := B4.out; have h3 := B3.out; have h4 := B4.out; have h5 := B5.out; have h6 := B6.out; omega)).mono ?_)
      rintro e w8 ⟨rfl, hr, hb, hk⟩
      rw [E4.out]
      have HM13 := Lib.hid (HM12.out.in15 hr hb hk)
      clear hr hb hk HM12 d15
      clear d13 f13 d14 f14
      have d16 := HM13.out.cell 18 rfl
      go_wp2_with fail
      (with_reducible refine (markValueS_calls n xs[i].f2.f8.f4 v16 f16 K4 w0 _ HM13.out.bel HM13.out.r16 (nd5 HM13.out.nd).1.2.2.2.2 (fun k hk => HM13.out.fb k (app5.2 (.inr (.inr (.inr (.inr hk)))))) (by have := B4.out; omega) (by rw [E5.out]; have := B3.out; have := B4.out; have := B5.out; have := B6.out; omega)).mono ?_)
      rintro e w9 ⟨rfl, hr, hb, hk⟩
      rw [E5.out]
      have HM14 := Lib.hid (HM13.out.in16 hr hb hk)
      clear hr hb hk HM13 d16
      have HMZ := HM14.out
      have hz := HCL.out w9 ⟨K, ((K + 1) % 3 == 0), ⟨K + 2, mt (K + 3), K + 4, K + 5, K + 6, ((K + 7) % 3 == 0), (mkL mkS xs[i].f2.f6 (K + 8)).1, ⟨K1, mt (K1 + 1), K1 + 2, (mkL mkS xs[i].f2.f7.f3 (K1 + 3)).1, (mkL (mkV n) xs[i].f2.f7.f4 K2).1⟩, ⟨K3, mt (K3 + 1), K3 + 2, (mkL mkS xs[i].f2.f8.f3 (K3 + 3)).1, (mkL (mkV n) xs[i].f2.f8.f4 K4).1⟩⟩⟩ _ HMZ.seg (tC_mk (x := ⟨K, ((K + 1) % 3 == 0), ⟨K + 2, mt (K + 3), K + 4, K + 5, K + 6, ((K + 7) % 3 == 0), (mkL mkS xs[i].f2.f6 (K + 8)).1, ⟨K1, mt (K1 + 1), K1 + 2, (mkL mkS xs[i].f2.f7.f3 (K1 + 3)).1, (mkL (mkV n) xs[i].f2.f7.f4 K2).1⟩, ⟨K3, mt (K3 + 1), K3 + 2, (mkL mkS xs[i].f2.f8.f3 (K3 + 3)).1, (mkL (mkV n) xs[i].f2.f8.f4 K4).1⟩⟩⟩) (tO_mk5 (x := ⟨K + 2, mt (K + 3), K + 4, K + 5, K + 6, ((K + 7) % 3 == 0), (mkL mkS xs[i].f2.f6 (K + 8)).1, ⟨K1, mt (K1 + 1), K1 + 2, (mkL mkS xs[i].f2.f7.f3 (K1 + 3)).1, (mkL (mkV n) xs[i].f2.f7.f4 K2).1⟩, ⟨K3, mt (K3 + 1), K3 + 2, (mkL mkS xs[i].f2.f8.f3 (K3 + 3)).1, (mkL (mkV n) xs[i].f2.f8.f4 K4).1⟩⟩) HMZ.r6 HMZ.r10 HMZ.r11 HMZ.r15 HMZ.r16)) (fun k hk hkg hkf => HMZ.kept.2 k (Td.Row_lt HR4.out k hk) (fun h => h.elim hkg hkf))
      have HZ := Lib.hid hz
      have HBZ := Lib.hid HMZ.bel
      have HKZ := Lib.hid (kept_trans HK2.out HMZ.kept (fun k hk => .inl (hk.elim (fun h => h ▸ HG.out) (fun h => HFS.out k h))))
      clear HMZ hz HM14
      go_wp2
      go_roundw
      case rel =>
        refine ⟨i + 1, by omega, ?_, by go_num, ?_, HBZ, HKZ⟩
        · rw [HNX.out]
        · have h_ := HZ.out
          unfold Hid
          rw [HNX.out]
          simp only [List.append_assoc, List.singleton_append]
          exact h_
      case measure => simp [intOf]; omega
    · obtain rfl : i = xs.length := by omega
      go_wp2
      go_ret
      have h_ := HR2.out
      rw [List.take_length, List.drop_length, List.append_nil] at h_
      exact ⟨by first | rfl | simp, h_, HB2.out, HK2.out⟩
end Go.Proofs.Ytmoiacijklkfaaa.G

/- G78 -/
-- Laid by wip/g/gprint.py out of the translation, by the kit's print program. Lean checks it.
namespace Go.Proofs.Ytmoiacijklkfaaa.G
open Go.RowKit Go.Proofs.YtmoiacijklkfaaaW.PrintWords Go.Proofs.YtmoiacijklkfaaaW.PrintLast Go.Proofs.YtmoiacijklkfaaaW.PrintMore
attribute [local go_sem] max2_int min2_int max_two min_two max_three min_three max_four min_four   -- for this text's walks alone
set_option linter.unusedVariables false
set_option linter.unusedSimpArgs false

/-! ### laws_heldStringS: function 78 -/
def laws_heldStringS.l0 : Nat → List ByteArray → Int → Int → Option (Int)
  | 0, _, _, _ => none
  | k + 1, x0, x1, x5 => if x5 < (x0.length : Int) then (if 0 ≤ x5 then ((laws_markText.f k x1).bind fun t1038 => (if (rdOf ByteArray.empty x0 x5).toList = t1038.toList then (laws_heldStringS.l0 k x0 (wrap64 (x1 + 1)) (wrap64 (x5 + 1))) else (some (-1)))) else (none)) else (some x1)
def laws_heldStringS.f (k : Nat) (l0 : List ByteArray) (a1 : Int) : Option (Int) := laws_heldStringS.l0 k l0 a1 0
set_option maxHeartbeats 8000000 in
set_option maxRecDepth 100000 in
theorem laws_heldStringS.calls (k : Nat) (A0 : Option Addr) (c0 : Nat) (l0 : List ByteArray) (a1 : Int) (r : Int) (w : World) (hr0 : Kd.C Kd.string w A0 l0.length l0) (hc0 : l0.length ≤ c0) (h : laws_heldStringS.f k l0 a1 = some r) :
    Calls Try.prog 78 #[.slice A0 l0.length c0, .int .i64 a1] w fun e w' => e = .returned (.int .i64 r) ∧ Below w.heap.size w w' := by
  have HR0 := Aside0.mk hr0
  have HC0 := Aside0.mk hc0
  clear hr0 hc0
  have HB := Aside0.mk (Below.refl w.heap.size w)
  have H : (laws_heldStringS.l0 k l0 a1 0) = some r := h
  clear h
  have H' := Aside0.mk H
  clear H
  go_enter Try.func78, Try.ntmps78
  go_wp2
  go_loopg [1, 5] k (fun kq v1 v5 w' => ∃ (x1_1 : Int) (x5_1 : Int), v1 = .int .i64 x1_1 ∧ v5 = .int .i64 x5_1 ∧ Aside0 (laws_heldStringS.l0 kq l0 x1_1 x5_1 = some r) ∧ Aside0 (kq ≤ k) ∧ Aside0 (Below w.heap.size w w'))
  case atStart => exact ⟨(a1), (0), (by first | rfl | (simp; done) | (simp [*]; done)), (by first | rfl | (simp; done) | (simp [*]; done)), H', ⟨Nat.le_refl _⟩, ⟨by repeat (first | (with_reducible first | exact HB.out | apply below_alloc | apply pw_below_drewN | apply below_drew1) | exact HB.out)⟩⟩
  case round =>
    clear H'
    try clear p2
    obtain ⟨x1_1, x5_1, rfl, rfl, HA, HK1, HB⟩ := hrel
    cases gk with
    | zero => exact absurd HA.out (by simp [laws_heldStringS.l0])
    | succ k1 =>
      have H := HA.out
      clear HA
      simp only [laws_heldStringS.l0] at H
      by_cases c3 : x5_1 < (l0.length : Int)
      · rw [if_pos c3] at H
        have c3b0 : decide (x5_1 < (l0.length : Int)) = true := decide_eq_true c3
        clear c3
        by_cases c4 : 0 ≤ x5_1
        · rw [if_pos c4] at H
          have c4b0 : decide (0 ≤ x5_1) = true := decide_eq_true c4
          clear c4
          replace H := Option.bind_eq_some_iff.mp H
          obtain ⟨t1038, A50, H⟩ := H
          replace H : (if (rdOf ByteArray.empty l0 x5_1).toList = t1038.toList then (laws_heldStringS.l0 k1 l0 (wrap64 (x1_1 + 1)) (wrap64 (x5_1 + 1))) else (some (-1))) = some r := H
          have A5 := Aside0.mk A50
          clear A50
          by_cases c6 : (rdOf ByteArray.empty l0 x5_1).toList = t1038.toList
          · rw [if_pos c6] at H
            have c6b0 : ((rdOf ByteArray.empty l0 x5_1).toList == t1038.toList) = true := beq_iff_eq.mpr c6
            have c6b1 : ((rdOf ByteArray.empty l0 x5_1).toList != t1038.toList) = false := bne_eq_false_iff_eq.mpr c6
            clear c6
            have H' := Aside0.mk H
            clear H
            try go_wp2
            have n0_ := Aside0.mk (below_drew1 HB.out)
            clear HB
            have HB := n0_
            clear n0_
            have p1037 : 0 ≤ (x5_1 : Int) := of_decide_eq_true (by first | (with_reducible assumption) | assumption)
            have q1037 : x5_1 < (l0.length : Int) := of_decide_eq_true (by first | (with_reducible assumption) | assumption)
            obtain ⟨ad1037, e1037, hx1037_0⟩ := Kd.at_string HR0.out x5_1 p1037 q1037
            have hw1037_0 := hx1037_0
            cases e1037
            replace hx1037_0 := (HB.out.cell (World.block_lt_of_cell? w _ hx1037_0)).trans hx1037_0
            replace p1037 := eq_true p1037
            replace q1037 := eq_true q1037
            refine start_ (n := 7) (S := fun w' => w'.cell? (ad1037.add (x5_1).toNat) = some (.string (rdOf ByteArray.empty l0 x5_1))) (ds := []) #[false, false, false, false, false, false, false] (by kernel_rfl) rfl rfl (((HB.out.cell (World.block_lt_of_cell? w _ hw1037_0)).trans hw1037_0)) (fun hHeld => ?_)
            generalize wr.drew = w7 at HB hx1037_0 hHeld ⊢
            refine pure_ (i := 0) (N := some 12) (v := ?_) (a' := ?_) #[true, false, false, false, false, false, false] rfl rfl (by kernel_rfl) (fun _ _ _ h => h) (Or.inl ⟨by rfl, ?_⟩) ?_ ?_
            rotate_left
            · intro w'
              go_simp
              with_reducible rfl
            rotate_left
            · simp only [Act.put, List.setIfInBounds_toArray, List.set_cons_zero, List.set_cons_succ, i64_w, i32_w]
              rfl
            refine pure_ (i := 1) (N := some 13) (v := ?_) (a' := ?_) #[true, true, false, false, false, false, false] rfl rfl (by kernel_rfl) (fun _ _ _ h => h) (Or.inl ⟨by rfl, ?_⟩) ?_ ?_
            rotate_left
            · intro w'
              go_simp
              with_reducible rfl
            rotate_left
            · simp only [Act.put, List.setIfInBounds_toArray, List.set_cons_zero, List.set_cons_succ, i64_w, i32_w]
              rfl
            refine pure_ (i := 2) (N := some 14) (v := ?_) (a' := ?_) #[true, true, true, false, false, false, false] rfl rfl (by kernel_rfl) (fun _ _ _ h => h) (Or.inl ⟨by rfl, ?_⟩) ?_ ?_
            rotate_left
            · intro w'
              go_simp
              with_reducible rfl
            rotate_left
            · simp only [Act.put, List.setIfInBounds_toArray, List.set_cons_zero, List.set_cons_succ, i64_w, i32_w]
              rfl
            refine pure_ (i := 4) (N := some 16) (v := ?_) (a' := ?_) #[true, true, true, false, true, false, false] rfl rfl (by kernel_rfl) (fun _ _ _ h => h) (Or.inl ⟨by rfl, ?_⟩) ?_ ?_
            rotate_left
            · intro w'
              go_simp
              with_reducible rfl
            rotate_left
            · simp only [Act.put, List.setIfInBounds_toArray, List.set_cons_zero, List.set_cons_succ, i64_w, i32_w]
              rfl
            refine take_ (i := 3) (N := some 15) (v := ?_) (a' := ?_) #[true, true, true, true, true, false, false] rfl rfl (by kernel_rfl) (fun _ _ _ h => h) (Or.inl ⟨by rfl, ?_⟩) hHeld ?_ ?_
            rotate_left
            · intro w' s0
              go_simp
              with_reducible rfl
            rotate_left
            · simp only [Act.put, List.setIfInBounds_toArray, List.set_cons_zero, List.set_cons_succ, i64_w, i32_w]
              rfl
            refine one_ (i := 5) (N := some 17) #[true, true, true, true, true, true, false] rfl rfl (by kernel_rfl) (by decide) (fun K hK => ?_)
            refine goes_ Try.func83 (by kernel_rfl) rfl #[.int .i64 x1_1] (by rfl) rfl rfl (by (try simp only [List.map_toArray, List.map_cons, List.map_nil]); first | done | rfl | (simp only [List.length_drop, List.length_take]; rfl)) ?_
            with_reducible refine (laws_markText.calls k1 x1_1 t1038 _ A5.out).mono ?_
            rintro e w8 ⟨rfl, hb⟩
            refine ⟨_, rfl, ?_⟩
            have n0_ := Aside0.mk (below_step (by repeat (first | (with_reducible first | exact HB.out | apply below_alloc | apply pw_below_drewN | apply below_drew1) | exact HB.out)) hb)
            clear HB
            have HB := n0_
            clear n0_
            (try clear hb)
            (try clear hb2)
            (try clear hk)
            (try clear hi)
            refine hK.out _ _ (((HB.out.cell (World.block_lt_of_cell? w _ hw1037_0)).trans hw1037_0)) (fun hHeld => ?_)
            clear hK K
            refine norm_ (a' := ?_) ?_ ?_
            rotate_left
            · show Act.put _ (some 17) _ = _
              simp only [Act.put, List.setIfInBounds_toArray, List.set_cons_zero, List.set_cons_succ, i64_w, i32_w]
              rfl
            refine pure_ (i := 6) (N := some 18) (v := ?_) (a' := ?_) #[true, true, true, true, true, true, true] rfl rfl (by kernel_rfl) (fun _ _ _ h => h) (Or.inl ⟨by rfl, ?_⟩) ?_ ?_
            rotate_left
            · intro w'
              go_simp
              with_reducible rfl
            rotate_left
            · simp only [Act.put, List.setIfInBounds_toArray, List.set_cons_zero, List.set_cons_succ, i64_w, i32_w]
              rfl
            refine done_ (by kernel_rfl) ?_
            try go_wp2
            go_roundg k1
            case measure => have := HK1.out; omega
            case rel => exact ⟨(wrap64 (x1_1 + 1)), (wrap64 (x5_1 + 1)), (by first | rfl | (simp; done) | (simp [*]; done)), (by first | rfl | (simp; done) | (simp [*]; done)), H', ⟨by have := HK1.out; omega⟩, ⟨by repeat (first | (with_reducible first | exact HB.out | apply below_alloc | apply pw_below_drewN | apply below_drew1) | exact HB.out)⟩⟩
          · rw [if_neg c6] at H
            have c6b0 : ((rdOf ByteArray.empty l0 x5_1).toList == t1038.toList) = false := beq_eq_false_iff_ne.mpr c6
            have c6b1 : ((rdOf ByteArray.empty l0 x5_1).toList != t1038.toList) = true := bne_iff_ne.mpr c6
            obtain rfl := Option.some.inj H
            try go_wp2
            have n0_ := Aside0.mk (below_drew1 HB.out)
            clear HB
            have HB := n0_
            clear n0_
            have p1037 : 0 ≤ (x5_1 : Int) := of_decide_eq_true (by first | (with_reducible assumption) | assumption)
            have q1037 : x5_1 < (l0.length : Int) := of_decide_eq_true (by first | (with_reducible assumption) | assumption)
            obtain ⟨ad1037, e1037, hx1037_0⟩ := Kd.at_string HR0.out x5_1 p1037 q1037
            have hw1037_0 := hx1037_0
            cases e1037
            replace hx1037_0 := (HB.out.cell (World.block_lt_of_cell? w _ hx1037_0)).trans hx1037_0
            replace p1037 := eq_true p1037
            replace q1037 := eq_true q1037
            refine start_ (n := 7) (S := fun w' => w'.cell? (ad1037.add (x5_1).toNat) = some (.string (rdOf ByteArray.empty l0 x5_1))) (ds := []) #[false, false, false, false, false, false, false] (by kernel_rfl) rfl rfl (((HB.out.cell (World.block_lt_of_cell? w _ hw1037_0)).trans hw1037_0)) (fun hHeld => ?_)
            generalize wr.drew = w9 at HB hx1037_0 hHeld ⊢
            refine pure_ (i := 0) (N := some 12) (v := ?_) (a' := ?_) #[true, false, false, false, false, false, false] rfl rfl (by kernel_rfl) (fun _ _ _ h => h) (Or.inl ⟨by rfl, ?_⟩) ?_ ?_
            rotate_left
            · intro w'
              go_simp
              with_reducible rfl
            rotate_left
            · simp only [Act.put, List.setIfInBounds_toArray, List.set_cons_zero, List.set_cons_succ, i64_w, i32_w]
              rfl
            refine pure_ (i := 1) (N := some 13) (v := ?_) (a' := ?_) #[true, true, false, false, false, false, false] rfl rfl (by kernel_rfl) (fun _ _ _ h => h) (Or.inl ⟨by rfl, ?_⟩) ?_ ?_
            rotate_left
            · intro w'
              go_simp
              with_reducible rfl
            rotate_left
            · simp only [Act.put, List.setIfInBounds_toArray, List.set_cons_zero, List.set_cons_succ, i64_w, i32_w]
              rfl
            refine pure_ (i := 2) (N := some 14) (v := ?_) (a' := ?_) #[true, true, true, false, false, false, false] rfl rfl (by kernel_rfl) (fun _ _ _ h => h) (Or.inl ⟨by rfl, ?_⟩) ?_ ?_
            rotate_left
            · intro w'
              go_simp
              with_reducible rfl
            rotate_left
            · simp only [Act.put, List.setIfInBounds_toArray, List.set_cons_zero, List.set_cons_succ, i64_w, i32_w]
              rfl
            refine pure_ (i := 4) (N := some 16) (v := ?_) (a' := ?_) #[true, true, true, false, true, false, false] rfl rfl (by kernel_rfl) (fun _ _ _ h => h) (Or.inl ⟨by rfl, ?_⟩) ?_ ?_
            rotate_left
            · intro w'
              go_simp
              with_reducible rfl
            rotate_left
            · simp only [Act.put, List.setIfInBounds_toArray, List.set_cons_zero, List.set_cons_succ, i64_w, i32_w]
              rfl
            refine take_ (i := 3) (N := some 15) (v := ?_) (a' := ?_) #[true, true, true, true, true, false, false] rfl rfl (by kernel_rfl) (fun _ _ _ h => h) (Or.inl ⟨by rfl, ?_⟩) hHeld ?_ ?_
            rotate_left
            · intro w' s0
              go_simp
              with_reducible rfl
            rotate_left
            · simp only [Act.put, List.setIfInBounds_toArray, List.set_cons_zero, List.set_cons_succ, i64_w, i32_w]
              rfl
            refine one_ (i := 5) (N := some 17) #[true, true, true, true, true, true, false] rfl rfl (by kernel_rfl) (by decide) (fun K hK => ?_)
            refine goes_ Try.func83 (by kernel_rfl) rfl #[.int .i64 x1_1] (by rfl) rfl rfl (by (try simp only [List.map_toArray, List.map_cons, List.map_nil]); first | done | rfl | (simp only [List.length_drop, List.length_take]; rfl)) ?_
            with_reducible refine (laws_markText.calls k1 x1_1 t1038 _ A5.out).mono ?_
            rintro e w10 ⟨rfl, hb⟩
            refine ⟨_, rfl, ?_⟩
            have n0_ := Aside0.mk (below_step (by repeat (first | (with_reducible first | exact HB.out | apply below_alloc | apply pw_below_drewN | apply below_drew1) | exact HB.out)) hb)
            clear HB
            have HB := n0_
            clear n0_
            (try clear hb)
            (try clear hb2)
            (try clear hk)
            (try clear hi)
            refine hK.out _ _ (((HB.out.cell (World.block_lt_of_cell? w _ hw1037_0)).trans hw1037_0)) (fun hHeld => ?_)
            clear hK K
            refine norm_ (a' := ?_) ?_ ?_
            rotate_left
            · show Act.put _ (some 17) _ = _
              simp only [Act.put, List.setIfInBounds_toArray, List.set_cons_zero, List.set_cons_succ, i64_w, i32_w]
              rfl
            refine pure_ (i := 6) (N := some 18) (v := ?_) (a' := ?_) #[true, true, true, true, true, true, true] rfl rfl (by kernel_rfl) (fun _ _ _ h => h) (Or.inl ⟨by rfl, ?_⟩) ?_ ?_
            rotate_left
            · intro w'
              go_simp
              with_reducible rfl
            rotate_left
            · simp only [Act.put, List.setIfInBounds_toArray, List.set_cons_zero, List.set_cons_succ, i64_w, i32_w]
              rfl
            refine done_ (by kernel_rfl) ?_
            try go_wp2
            go_ret
            exact ⟨by first | rfl | (simp [errW_none, errW_some] <;> rfl) | (simp [*, errW_none, errW_some] <;> rfl), by repeat (first | (with_reducible first | exact HB.out | apply below_alloc | apply pw_below_drewN | apply below_drew1) | exact HB.out)⟩
        · rw [if_neg c4] at H
          exact absurd H (by simp)
      · rw [if_neg c3] at H
        have c3b0 : decide (x5_1 < (l0.length : Int)) = false := decide_eq_false c3
        clear c3
        obtain rfl := Option.some.inj H
        go_wp2
        go_ret
        exact ⟨by first | rfl | (simp [errW_none, errW_some] <;> rfl) | (simp [*, errW_none, errW_some] <;> rfl), by repeat (first | (with_reducible first | exact HB.out | apply below_alloc | apply pw_below_drewN | apply below_drew1) | exact HB.out)⟩

end Go.Proofs.Ytmoiacijklkfaaa.G

/- PHeldS -/
/-
  Marks are found again: lists of texts.
-/
namespace Go.Proofs.Ytmoiacijklkfaaa.G
open Go.RowKit Go.Proofs.YtmoiacijklkfaaaW.PrintWords Go.Proofs.YtmoiacijklkfaaaW.PrintLast Go.Proofs.YtmoiacijklkfaaaW.PrintMore
set_option linter.unusedVariables false
set_option linter.unusedSimpArgs false
theorem mkL_get {α : Type} (f : α → Int → α × Int) : ∀ (xs : List α) (a : Int) (i : Nat) (h : i < xs.length) (h' : i < (mkL f xs a).1.length), (mkL f xs a).1[i] = (f xs[i] (mkL f (xs.take i) a).2).1
  | x :: xs, a, 0, h, h' => by simp [mkL]
  | x :: xs, a, i + 1, h, h' => by
    simp only [mkL, List.getElem_cons_succ, List.take_succ_cons]
    exact mkL_get f xs _ i (by simpa using h) _
theorem mkL_next {α : Type} (f : α → Int → α × Int) (xs : List α) (a : Int) (i : Nat) (h : i < xs.length) : (mkL f (xs.take (i + 1)) a).2 = (f xs[i] (mkL f (xs.take i) a).2).2 := by
  rw [List.take_succ_eq_append_getElem h, mkL_snoc]
theorem heldStrs_l0 (xs : List ByteArray) (a : Int) (h0 : 0 ≤ a) (h1 : a + xs.length ≤ 1099511627776) : ∀ (d i : Nat), i + d = xs.length → Ev (fun k => laws_heldStringS.l0 k (mkL mkS xs a).1 (mkL mkS (xs.take i) a).2 i) (mkL mkS xs a).2
  | 0, i, hd => by
    refine Ev.step (fun k => by rw [laws_heldStringS.l0]) (ev_if_neg (by rw [mkL_len]; omega) (ev_some ?_))
    rw [List.take_of_length_le (by omega)]
  | d + 1, i, hd => by
    have hi : i < xs.length := by omega
    have hi2 : i < (mkL mkS xs a).1.length := by rw [mkL_len]; exact hi
    have hc := mkS_count (xs.take i) a
    have hlt : ((xs.take i).length : Int) = i := by rw [List.length_take]; omega
    have ih := heldStrs_l0 xs a h0 h1 d (i + 1) (by omega)
    rw [mkL_next _ _ _ _ hi] at ih
    refine Ev.step (fun k => by rw [laws_heldStringS.l0]) (ev_if_pos (by rw [mkL_len]; omega) (ev_if_pos (by omega) ?_))
    rw [rdS hi2, mkL_get _ _ _ _ hi, wsucc (n := xs.length) hi (by omega), w64 (by omega) (by omega)]
    refine Ev.bind (mt_ev _ (by omega) (by omega)) (ev_if_pos rfl ?_)
    exact ih
theorem heldStrs_ev (xs : List ByteArray) (a : Int) (h0 : 0 ≤ a) (h1 : a + xs.length ≤ 1099511627776) : Ev (fun k => laws_heldStringS.f k (mkL mkS xs a).1 a) (mkL mkS xs a).2 := by
  unfold laws_heldStringS.f
  exact heldStrs_l0 xs a h0 h1 xs.length 0 (by omega)
end Go.Proofs.Ytmoiacijklkfaaa.G
