import Derived.Test.YteilcchcekmooaaMFnEven2
import Derived.Test.YteilcchcekmooaaMFnEven1
import Derived.Deep.QuietTactic
import Derived.Test.YteilcchcekmooaaMFnEven7
/- PQuoA -/
/-
  quotas: its comparison, walked; and the boxes of its variables.
-/
namespace Go.Proofs.Yteilcchcekmooaa.G
open Go.Shelf Go.RowKit Go.Lib Go.Sort
open Go.Proofs.YteilcchcekmooaaW.PrintWords Go.Proofs.YteilcchcekmooaaW.PrintLast Go.Proofs.YteilcchcekmooaaW.PrintMore
set_option linter.unusedVariables false
set_option linter.unusedSimpArgs false

set_option maxHeartbeats 4000000 in
set_option maxRecDepth 1000000 in
theorem quotas1_calls (m s a b xa xb ya yb : Int) (g0 g1 g2 g3 n1 n2 c1 c2 : Nat) (ad1 ad2 : Addr) (W : World)
    (e0 : W.cell? ⟨g0, 0, none⟩ = some (.int .i64 m)) (e1 : W.cell? ⟨g1, 0, none⟩ = some (.slice (some ad1) n1 c1)) (e2 : W.cell? ⟨g2, 0, none⟩ = some (.slice (some ad2) n2 c2)) (e3 : W.cell? ⟨g3, 0, none⟩ = some (.int .i64 s))
    (ha0 : 0 ≤ a) (ha1 : a < n2) (hb0 : 0 ≤ b) (hb1 : b < n2) (hxa0 : 0 ≤ xa) (hxa1 : xa < n1) (hxb0 : 0 ≤ xb) (hxb1 : xb < n1)
    (fa : W.cell? (ad2.add a.toNat) = some (.int .i64 xa)) (fb : W.cell? (ad2.add b.toNat) = some (.int .i64 xb)) (ga : W.cell? (ad1.add xa.toNat) = some (.int .i64 ya)) (gb : W.cell? (ad1.add xb.toNat) = some (.int .i64 yb))
    (hs : 0 < s) (hs1 : s ≤ 64000) (hya : 0 ≤ m * ya ∧ m * ya ≤ 10000000) (hyb : 0 ≤ m * yb ∧ m * yb ≤ 10000000) :
    Calls Try.prog 35 #[.int .i64 a, .int .i64 b, .pointer (some ⟨g0, 0, none⟩), .pointer (some ⟨g1, 0, none⟩), .pointer (some ⟨g2, 0, none⟩), .pointer (some ⟨g3, 0, none⟩)] W fun e w' => e = .returned (.int .i64 (Int.tmod (m * yb) s - Int.tmod (m * ya) s)) ∧ ∃ q, w' = W.drewN q := by
  have r1 : 0 ≤ Int.tmod (m * ya) s ∧ Int.tmod (m * ya) s < s := ⟨Int.tmod_nonneg _ hya.1, Int.tmod_lt_of_pos _ hs⟩
  have r2 : 0 ≤ Int.tmod (m * yb) s ∧ Int.tmod (m * yb) s < s := ⟨Int.tmod_nonneg _ hyb.1, Int.tmod_lt_of_pos _ hs⟩
  have hval : wrap64 ((wrap64 (m * yb)).tmod s - (wrap64 (m * ya)).tmod s) = Int.tmod (m * yb) s - Int.tmod (m * ya) s := by
    rw [w64 (x := m * yb) (by omega) (by omega), w64 (x := m * ya) (by omega) (by omega), w64 (by omega) (by omega)]
  have HV := Lib.hid hval
  have hs0 : ¬ s = 0 := by omega
  clear hval r1 r2 hya hyb hs hs1
  go_enter Try.func35, Try.ntmps35
  go_wp2_with fail
  go_quiet (fail)
  go_wp2
  go_ret
  exact ⟨by first | rfl | (rw [← HV.out]; rfl) | (rw [← HV.out]; simp), nq, rfl⟩
end Go.Proofs.Yteilcchcekmooaa.G

/- PQuoB -/
/-
  quotas, walked. (Printed by wip/g/gquo.py.)
-/
namespace Go.Proofs.Yteilcchcekmooaa.G
open Go.Shelf Go.RowKit Go.Lib Go.Sort
open Go.Proofs.YteilcchcekmooaaW.PrintWords Go.Proofs.YteilcchcekmooaaW.PrintLast Go.Proofs.YteilcchcekmooaaW.PrintMore
set_option linter.unusedVariables false
set_option linter.unusedSimpArgs false
/-- The four boxes. -/
structure QB (w W : World) (m : Int) (s1 s2 : Value) (s : Int) : Prop where
  below : Below w.heap.size w W
  lt : w.heap.size + 3 < W.heap.size
  e0 : W.cell? ⟨w.heap.size, 0, none⟩ = some (.int .i64 m)
  e1 : W.cell? ⟨w.heap.size + 1, 0, none⟩ = some s1
  e2 : W.cell? ⟨w.heap.size + 2, 0, none⟩ = some s2
  e3 : W.cell? ⟨w.heap.size + 3, 0, none⟩ = some (.int .i64 s)
  f3 : W.frozen? ⟨w.heap.size + 3, 0, none⟩ = false
theorem QB.start (w : World) (m : Int) (s1 s2 : Value) : QB w ((((w.alloc (.cells #[.int .i64 m] 3)).alloc (.cells #[s1] 22)).alloc (.cells #[s2] 22)).alloc (.cells #[.int .i64 0] 3)) m s1 s2 0 where
  below := below_alloc (below_alloc (below_alloc (below_alloc (Below.refl _ _) _) _) _) _
  lt := by simp
  e0 := by rw [World.cell?_alloc_lt _ _ _ (by simp; omega), World.cell?_alloc_lt _ _ _ (by simp; omega), World.cell?_alloc_lt _ _ _ (by simp), World.cell?_alloc_at _ _ _ _ rfl]; rfl
  e1 := by rw [World.cell?_alloc_lt _ _ _ (by simp), World.cell?_alloc_lt _ _ _ (by simp), World.cell?_alloc_at _ _ _ _ (by simp)]; rfl
  e2 := by rw [World.cell?_alloc_lt _ _ _ (by simp), World.cell?_alloc_at _ _ _ _ (by simp)]; rfl
  e3 := by rw [World.cell?_alloc_at _ _ _ _ (by simp)]; rfl
  f3 := by
    have h := fun (W : World) => (by simp : (W.alloc (.cells #[.int .i64 0] 3)).frozen? ⟨W.heap.size, 0, none⟩ = false)
    have h2 := h (((w.alloc (.cells #[.int .i64 m] 3)).alloc (.cells #[s1] 22)).alloc (.cells #[s2] 22))
    simpa using h2
theorem QB.set {w W : World} {m : Int} {s1 s2 : Value} {s : Int} (h : QB w W m s1 s2 s) (s' : Int) : QB w (W.setCell ⟨w.heap.size + 3, 0, none⟩ (.int .i64 s')).drew m s1 s2 s' where
  below := below_drew1 (below_set h.below (by omega))
  lt := by have := h.lt; simpa using this
  e0 := (cell_far (by show w.heap.size ≠ w.heap.size + 3; omega) _).trans h.e0
  e1 := (cell_far (by show w.heap.size + 1 ≠ w.heap.size + 3; omega) _).trans h.e1
  e2 := (cell_far (by show w.heap.size + 2 ≠ w.heap.size + 3; omega) _).trans h.e2
  e3 := World.cell?_setCell_same _ _ _ h.e3
  f3 := (World.frozen?_setCell _ _ _ _).trans h.f3
theorem QB.kept {w W W' : World} {m : Int} {s1 s2 : Value} {s : Int} (h : QB w W m s1 s2 s) (hb : Below W.heap.size W W') : QB w W' m s1 s2 s where
  below := below_step h.below hb
  lt := Nat.lt_of_lt_of_le h.lt hb.size
  e0 := (hb.cell (World.block_lt_of_cell? _ _ h.e0)).trans h.e0
  e1 := (hb.cell (World.block_lt_of_cell? _ _ h.e1)).trans h.e1
  e2 := (hb.cell (World.block_lt_of_cell? _ _ h.e2)).trans h.e2
  e3 := (hb.cell (World.block_lt_of_cell? _ _ h.e3)).trans h.e3
  f3 := (hb.frozen h.lt).trans h.f3
theorem quoCells {m : Int} {ws op : List Int} {ad1 ad2 : Addr} {w W : World} (h1 : Kd.C (Kd.int .i64) w (some ad1) ws.length ws) (h2 : Kd.C (Kd.int .i64) w (some ad2) op.length op) (hp : QPre m ws op) (hb : Below w.heap.size w W) (k : Nat) (hk : k < op.length) :
    W.cell? (ad2.add k) = some (.int .i64 (rd op (k : Int))) ∧ W.cell? (ad1.add (rd op (k : Int)).toNat) = some (.int .i64 (wQ ws op k)) ∧ 0 ≤ rd op (k : Int) ∧ rd op (k : Int) < (ws.length : Int) := by
  obtain ⟨p0, p1, _, _⟩ := hp.at_ k hk
  obtain ⟨a2, ea2, c2⟩ := Kd.at_int h2 (k : Int) (by omega) (by omega)
  obtain ⟨a1, ea1, c1⟩ := Kd.at_int h1 (rd op (k : Int)) p0 p1
  cases ea1
  cases ea2
  rw [Int.toNat_natCast] at c2
  exact ⟨(hb.cell (World.block_lt_of_cell? _ _ c2)).trans c2, (hb.cell (World.block_lt_of_cell? _ _ c1)).trans c1, p0, p1⟩
theorem sw_below {α : Type} [Inhabited α] {enc : α → Value} {w0 W : World} {blk off : Nat} {dk : Array α} (h : SW enc w0 blk off dk W) (hblk : blk < w0.heap.size) {B : Nat} (hB : B ≤ blk) : Go.RowKit.Below B w0 W := by
  obtain ⟨n, os, rfl⟩ := h
  refine ⟨rfl, rfl, rfl, ?_, fun k hk => ?_⟩
  · show w0.heap.size ≤ ((w0.heap.modify blk _) ++ os).size
    simp
  · show ((w0.heap.modify blk _) ++ os)[k]? = _
    rw [Array.getElem?_append_left (by simp; omega), Array.getElem?_modify, if_neg (by omega)]
set_option maxHeartbeats 4000000 in
theorem quoSort {m : Int} {ws op : List Int} {ad1 ad2 : Addr} {c1 c2 : Nat} {w wr : World} (HP : QPre m ws op) (HQ : QB w wr m (.slice (some ad1) ws.length c1) (.slice (some ad2) op.length c2) (sumQ ws op op.length)) (g cap : Nat) (hg : w.heap.size + 3 < g) (hgs : g < wr.heap.size)
    (CL : ∀ k, k < op.length → wr.cell? (ad2.add k) = some (.int .i64 (rd op (k : Int))) ∧ wr.cell? (ad1.add (rd op (k : Int)).toNat) = some (.int .i64 (wQ ws op k)) ∧ 0 ≤ rd op (k : Int) ∧ rd op (k : Int) < (ws.length : Int)) (hb1 : ad1.block < g) (hb2 : ad2.block < g)
    (HG : ∀ k, k < op.length → wr.cell? ⟨g, k, none⟩ = some (.int .i64 (k : Int)) ∧ wr.frozen? ⟨g, k, none⟩ = false) :
    Calls Try.prog 34 #[.slice (some ⟨g, 0, none⟩) op.length cap, .func (.func 35) #[] #[.pointer (some ⟨w.heap.size, 0, none⟩), .pointer (some ⟨w.heap.size + 1, 0, none⟩), .pointer (some ⟨w.heap.size + 2, 0, none⟩), .pointer (some ⟨w.heap.size + 3, 0, none⟩)]] wr
      fun e w' => e = .returned (.tuple #[]) ∧ Go.RowKit.Below g wr w' ∧ ∃ p, Ranked m ws op p ∧ ∀ t, t < op.length → w'.cell? ⟨g, t, none⟩ = some (.int .i64 ((p t : Nat) : Int)) := by
  haveI : Inhabited (Fin op.length) := ⟨⟨0, HP.n0⟩⟩
  obtain ⟨d0, hs0, hd0⟩ : ∃ d0 : Array (Fin op.length), d0.size = op.length ∧ ∀ k (h : k < op.length), d0[k]! = ⟨k, h⟩ := ⟨Array.ofFn id, by simp, fun k h => by rw [getElem!_pos _ k (by simpa using h)]; simp⟩
  have R : Row1 (fun x : Fin op.length => Value.int .i64 ((x.val : Nat) : Int)) wr g 0 d0 := ⟨fun _ => rfl, fun j hj => by rw [hs0] at hj; rw [Nat.zero_add, hd0 j hj]; exact HG j hj, hgs⟩
  have hcmp : CmpReads Try.prog 35 #[.pointer (some ⟨w.heap.size, 0, none⟩), .pointer (some ⟨w.heap.size + 1, 0, none⟩), .pointer (some ⟨w.heap.size + 2, 0, none⟩), .pointer (some ⟨w.heap.size + 3, 0, none⟩)] (fun x : Fin op.length => Value.int .i64 ((x.val : Nat) : Int)) (fun x y => restQ m ws op y.val - restQ m ws op x.val) g 0 d0.size wr := by
    intro mm os dk hs x y
    have hsw : SW (fun x : Fin op.length => Value.int .i64 ((x.val : Nat) : Int)) wr g 0 dk (sortWorld (fun x : Fin op.length => Value.int .i64 ((x.val : Nat) : Int)) wr g 0 mm dk os) := ⟨mm, os, rfl⟩
    have hb := sw_below hsw hgs (Nat.le_refl g)
    generalize sortWorld (fun x : Fin op.length => Value.int .i64 ((x.val : Nat) : Int)) wr g 0 mm dk os = W at hb ⊢
    obtain ⟨x1, x2, x3, x4⟩ := CL x.val x.isLt
    obtain ⟨y1, y2, y3, y4⟩ := CL y.val y.isLt
    have hS := sumQ_pos HP
    refine quotas1_calls m (sumQ ws op op.length) (x.val : Nat) (y.val : Nat) (rd op (x.val : Int)) (rd op (y.val : Int)) (wQ ws op x.val) (wQ ws op y.val) w.heap.size (w.heap.size + 1) (w.heap.size + 2) (w.heap.size + 3) ws.length op.length c1 c2 ad1 ad2 W
      ((hb.cell (by show w.heap.size < g; omega)).trans HQ.e0) ((hb.cell (by show w.heap.size + 1 < g; omega)).trans HQ.e1) ((hb.cell (by show w.heap.size + 2 < g; omega)).trans HQ.e2) ((hb.cell (by show w.heap.size + 3 < g; omega)).trans HQ.e3)
      (by omega) (by have := x.isLt; omega) (by omega) (by have := y.isLt; omega) x3 x4 y3 y4 ?_ ?_ ?_ ?_ hS.1 hS.2 (mw_bound HP x.isLt) (mw_bound HP y.isLt)
    · rw [Int.toNat_natCast]; exact (hb.cell (by rw [add_block]; exact hb2)).trans x1
    · rw [Int.toNat_natCast]; exact (hb.cell (by rw [add_block]; exact hb2)).trans y1
    · exact (hb.cell (by rw [add_block]; exact hb1)).trans x2
    · exact (hb.cell (by rw [add_block]; exact hb1)).trans y2
  have eg : ∀ args w, (callFunc 35 args).run Try.prog w = .ok (.enter 35 args) w := enters_of Try.func35 (by kernel_rfl) rfl
  have hc := sortStable_calls (fun x : Fin op.length => Value.int .i64 ((x.val : Nat) : Int)) (fun x y => restQ m ws op y.val - restQ m ws op x.val) (fun x y => ltQ m ws op x.val y.val) (swo_ltQ m ws op op.length) 35 _ g 0 cap d0 wr eg hcmp.lays R (by rw [hs0]; exact HP.n1) (fun p q hpq hq => by
    rw [hs0] at hq
    rw [hd0 q hq, hd0 p (by omega)]
    unfold ltOf ltQ
    have e : (decide (q < p)) = false := decide_eq_false (by omega)
    rw [Bool.eq_iff_iff]
    simp [e]
    omega)
  rw [hs0] at hc
  refine hc.mono ?_
  rintro e w' ⟨rfl, d', hS, hs', hP, hO⟩
  refine ⟨rfl, sw_below hS hgs (Nat.le_refl g), fun t => (d'[t]!).val, ?_, fun t ht => ?_⟩
  · have hl : ((List.range' 0 op.length).map (fun i => d'[i]!)).Perm ((List.range' 0 op.length).map (fun i => d0[i]!)) := by
      have h := hP.2.2
      rw [extract_toList d' 0 op.length (by omega), extract_toList d0 0 op.length (by omega)] at h
      exact h
    have hnd : ((List.range' 0 op.length).map (fun i => d'[i]!)).Nodup := by
      refine hl.nodup_iff.2 (List.pairwise_map.2 (List.Pairwise.imp_of_mem (fun {a b} ha hb hab => ?_) (List.nodup_range' (s := 0) (n := op.length))))
      have ha' := (List.mem_range'_1.1 ha).2
      have hb' := (List.mem_range'_1.1 hb).2
      rw [hd0 a (by omega), hd0 b (by omega)]
      intro e
      exact hab (Fin.mk.inj e)
    have hinj : ∀ s t, s < t → t < op.length → d'[s]! ≠ d'[t]! := fun s t hst ht => by
      have h := List.pairwise_iff_getElem.1 (List.pairwise_map.1 hnd) s t (by simp; omega) (by simp; omega) hst
      simpa using h
    refine ⟨fun t ht => (d'[t]!).isLt, fun s t hs ht e => ?_, fun i hi => ?_, fun s t hst ht => ?_⟩
    · have e' := Fin.ext e
      rcases Nat.lt_trichotomy s t with h | h | h
      · exact absurd e' (hinj s t h ht)
      · exact h
      · exact absurd e'.symm (hinj t s h hs)
    · have hm : (⟨i, hi⟩ : Fin op.length) ∈ (List.range' 0 op.length).map (fun i => d'[i]!) := hl.mem_iff.2 (List.mem_map.2 ⟨i, List.mem_range'_1.2 ⟨by omega, by omega⟩, hd0 i hi⟩)
      obtain ⟨t, ht, e⟩ := List.mem_map.1 hm
      have ht' := (List.mem_range'_1.1 ht).2
      exact ⟨t, by omega, by rw [e]⟩
    · have h := hO s t (Nat.zero_le _) hst ht
      exact ltQ_total (fun e => hinj s t hst ht (Fin.ext e.symm)) h
  · have h := (hS.c1 R (by omega) t (by omega))
    rwa [Nat.zero_add] at h
def quoT12 : Bool × List (List Nat × List Nat) := (true, [([], []), ([], []), ([], []), ([], []), ([2, 3], [2, 3]), ([4], [4]), ([1, 5], [1, 5]), ([], []), ([6, 7], [6, 7]), ([8], [8]), ([0, 9], [0, 9]), ([10, 10, 0, 1, 2, 3, 4, 5, 6, 7, 8, 9, 10], [0, 10])])
def quoB12 : List Nat := [0, 0, 0, 0, 12, 28, 62, 0, 254, 510, 1023, 2047]
theorem quo_tab12 : rtab .any (opsOf Try.f23 12) = quoT12 := by kernel_rfl
theorem quo_bits12 : waitsOk quoT12.2 quoB12 = true := by kernel_rfl
set_option maxHeartbeats 16000000 in
set_option maxRecDepth 1000000 in
theorem quotas_walk (m : Int) (ws op : List Int) (A1 : Option Addr) (c1 : Nat) (A2 : Option Addr) (c2 : Nat) (w : World) (hr1 : Kd.C (Kd.int .i64) w A1 ws.length ws) (hc1 : ws.length ≤ c1) (hr2 : Kd.C (Kd.int .i64) w A2 op.length op) (hc2 : op.length ≤ c2) (hp : QPre m ws op) :
    Calls Try.prog 23 #[.int .i64 m, .slice A1 ws.length c1, .slice A2 op.length c2] w fun e w' => ∃ v0_ : Value, e = .returned (v0_) ∧ Kd.R (Kd.int .i64) 3 w' w.heap.size (fun _ => True) v0_ (quoL m ws op) ∧ Below w.heap.size w w' := by
  obtain ⟨p0, p1, _, _⟩ := hp.at_ 0 hp.n0
  obtain ⟨ad1, ea1, ca1⟩ := Kd.at_int hr1 (rd op ((0 : Nat) : Int)) p0 p1
  obtain ⟨ad2, ea2, ca2⟩ := Kd.at_int hr2 0 (by omega) (by have := hp.n0; omega)
  have hA1 := World.block_lt_of_cell? _ _ ca1
  have hA2 := World.block_lt_of_cell? _ _ ca2
  rw [add_block] at hA1 hA2
  have HA1 := Lib.hid hA1
  have HA2 := Lib.hid hA2
  clear ca1 ca2 hA1 hA2
  subst ea1
  subst ea2
  have CL0 := Lib.hid (fun (W : World) (hb : Below w.heap.size w W) (k : Nat) (hk : k < op.length) => quoCells hr1 hr2 hp hb k hk)
  have HP := Aside0.mk hp
  clear hr1 hr2 hp p0 p1
  go_enter Try.func23, Try.ntmps23
  go_wp2
  go_loopg [20] op.length (fun gk v20 wr => ∃ k : Nat, v20 = .int .i64 k ∧ k ≤ op.length ∧ op.length - k ≤ gk ∧ Aside0 (QB w wr m (.slice (some ad1) ws.length c1) (.slice (some ad2) op.length c2) (sumQ ws op k)))
  case atStart => exact ⟨0, rfl, by omega, by omega, ⟨QB.start w m _ _⟩⟩
  case round =>
    obtain ⟨k, rfl, hk, hgk, HQ⟩ := hrel
    by_cases hlt : k < op.length
    · have hltz : (k : Int) < (op.length : Int) := by omega
      have hkz : (0 : Int) ≤ (k : Int) := by omega
      obtain ⟨fx, fy, x0, x1⟩ := CL0.out wr HQ.out.below k hlt
      have e1 := HQ.out.e1
      have e3 := HQ.out.e3
      have f3 := HQ.out.f3
      have hsb := sumQ_bound HP.out k hk
      have hsb2 := sumQ_bound HP.out (k + 1) hlt
      have hk64 := HP.out.n1
      have hstep : Hid (sumQ ws op (k + 1) = sumQ ws op k + wQ ws op k) := rfl
      have HQ2 := Aside0.mk (HQ.out.set (sumQ ws op (k + 1)))
      rw [hstep.out] at hsb2
      generalize hsk : sumQ ws op k = sk at *
      generalize hy : wQ ws op k = y at *
      generalize hx : rd op (k : Int) = x at *
      have hwr : IntKind.i64.wrap (sk + y) = sk + y := by rw [IntKind.wrap_i64]; omega
      have HXX := Lib.hid hsk
      have HXY := Lib.hid hy
      have HXZ := Lib.hid hx
      clear hsk hy hx hsb hsb2
      go_wp2_with fail
      go_big_region
      rw [← hstep.out]
      generalize (wr.setCell ⟨w.heap.size + 3, 0, none⟩ (.int .i64 (sumQ ws op (k + 1)))).drew = w2 at HQ2 ⊢
      clear e1 e3 f3 fx fy HQ
      go_wp2
      go_roundg (op.length - (k + 1))
      case measure => omega
      case rel => exact ⟨k + 1, by go_num, hlt, Nat.le_refl _, HQ2⟩
    · have hltz : ¬ (k : Int) < (op.length : Int) := by omega
      obtain rfl : k = op.length := by omega
      have CB := Lib.hid (fun (W : World) (hb : Below wr.heap.size wr W) => HQ.out.kept hb)
      have CL := Lib.hid (fun (W : World) (hb : Below wr.heap.size wr W) (k : Nat) (hk : k < op.length) => CL0.out W (below_step HQ.out.below hb) k hk)
      have HBW := Lib.hid HQ.out.below
      have HW1 := Lib.hid HQ.out.lt
      obtain ⟨q0, q1, q2, q3⟩ := (show wr.cell? ⟨w.heap.size, 0, none⟩ = some (.int .i64 m) ∧ wr.cell? ⟨w.heap.size + 1, 0, none⟩ = some (.slice (some ad1) ws.length c1) ∧ wr.cell? ⟨w.heap.size + 2, 0, none⟩ = some (.slice (some ad2) op.length c2) ∧ wr.cell? ⟨w.heap.size + 3, 0, none⟩ = some (.int .i64 (sumQ ws op op.length)) from ⟨HQ.out.e0, HQ.out.e1, HQ.out.e2, HQ.out.e3⟩)
      clear HQ hgk hk hlt hltz CL0
      generalize wr = w1 at *
      go_wp2_with (first | ((with_reducible refine gate_dst (N := 31) rfl ?_); refine Kd.R_lit (Kd.int .i64) (w0 := w1) w1.heap.size 3 ?hg (N := 31) ?hd (xs := ([] : List Int)) (inner := []) (ok := fun _ => True) (okp := fun _ => True) ?hr ?hp (fun _ hk => hk) trivial (Below.refl _ _) (Nat.le_refl _) (by simp) ?_; (case hd => rfl); (case hg => rfl); (case hr => first | (go_simp; done) | (go_simp; rfl)); (case hp => exact (Reps.none _ _)); intro vout wB hoB hbB hg_ hnew_; clear hg_ hnew_ q1 q2 q3 q0; have HO := Aside0.mk hoB; have HB := Aside0.mk hbB; clear hoB hbB; obtain ⟨q0, _, q2, _⟩ := (show wB.cell? ⟨w.heap.size, 0, none⟩ = some (.int .i64 m) ∧ wB.cell? ⟨w.heap.size + 1, 0, none⟩ = some (.slice (some ad1) ws.length c1) ∧ wB.cell? ⟨w.heap.size + 2, 0, none⟩ = some (.slice (some ad2) op.length c2) ∧ wB.cell? ⟨w.heap.size + 3, 0, none⟩ = some (.int .i64 (sumQ ws op op.length)) from ⟨(CB.out _ HB.out).e0, (CB.out _ HB.out).e1, (CB.out _ HB.out).e2, (CB.out _ HB.out).e3⟩)))
      go_loopg [10, 11, 35] op.length (fun gk v10 v11 v35 wr => ∃ k : Nat, v35 = .int .i64 k ∧ k ≤ op.length ∧ op.length - k ≤ gk ∧ v11 = .int .i64 (leftQ m ws op k) ∧ Aside0 (Kd.R (Kd.int .i64) 3 wr w1.heap.size (fun _ => True) v10 (outQ m ws op k)) ∧ Aside0 (Below w1.heap.size w1 wr))
      case atStart => exact ⟨0, rfl, by omega, by omega, rfl, HO, HB⟩
      case round =>
        clear HO HB q0 q2
        obtain ⟨k, rfl, hk, hgk, rfl, HO, HB⟩ := hrel
        by_cases hlt : k < op.length
        · have hltz : (k : Int) < (op.length : Int) := by omega
          have hkz : (0 : Int) ≤ (k : Int) := by omega
          obtain ⟨fx, _, x0, x1⟩ := CL.out wr HB.out k hlt
          obtain ⟨x, hx⟩ : ∃ x, rd op (k : Int) = x := ⟨_, rfl⟩
          obtain ⟨y, hy⟩ : ∃ y, wQ ws op k = y := ⟨_, rfl⟩
          obtain ⟨sT, hsT⟩ : ∃ sT, sumQ ws op op.length = sT := ⟨_, rfl⟩
          rw [hx] at fx x0 x1
          have SB : Hid (∀ W, Go.RowKit.Below w1.heap.size w1 W → W.cell? ⟨w.heap.size, 0, none⟩ = some (.int .i64 m) ∧ W.cell? ⟨w.heap.size + 1, 0, none⟩ = some (.slice (some ad1) ws.length c1) ∧ W.cell? ⟨w.heap.size + 3, 0, none⟩ = some (.int .i64 sT) ∧ W.cell? (ad1.add x.toNat) = some (.int .i64 y)) := Lib.hid (fun W hb => by
            have h1 := CB.out W hb
            have h2 := (CL.out W hb k hlt).2.1
            rw [hx, hy] at h2
            exact ⟨h1.e0, h1.e1, by rw [← hsT]; exact h1.e3, h2⟩)
          have hmb := mw_bound HP.out hlt
          have hqb := qQ_bound HP.out hlt
          have hsp := sumQ_pos HP.out
          have hlb := left_eq HP.out k hk
          have hm0 := HP.out.m0
          have hm1 := HP.out.m1
          have hk64 := HP.out.n1
          rw [hy] at hmb
          rw [hsT] at hsp
          have hqe : qQ m ws op k = Int.tdiv (m * y) sT := by unfold qQ; rw [hy, hsT]
          have hz : wrap64 (Int.tdiv (wrap64 (m * y)) sT) = qQ m ws op k := by rw [w64 (x := m * y) (by omega) (by omega), ← hqe, w64 (by omega) (by omega)]
          have hlz : wrap64 (leftQ m ws op k - qQ m ws op k) = leftQ m ws op (k + 1) := by rw [leftQ, w64 (by omega) (by omega)]
          have hs0 : ¬ sT = 0 := by omega
          have hs1 : (sT = 0) = False := eq_false hs0
          have x0t := eq_true x0
          have x1t := eq_true x1
          have HX := Lib.hid hx
          have HY := Lib.hid hy
          have HST := Lib.hid hsT
          clear hmb hqb hsp hlb hm0 hm1 hqe hx hy hsT
          go_wp2_with fail
          refine start_ (n := 12) (S := fun w' => w'.cell? ⟨w.heap.size, 0, none⟩ = some (.int .i64 m) ∧ w'.cell? ⟨w.heap.size + 1, 0, none⟩ = some (.slice (some ad1) ws.length c1) ∧ w'.cell? ⟨w.heap.size + 3, 0, none⟩ = some (.int .i64 sT) ∧ w'.cell? (ad1.add x.toNat) = some (.int .i64 y)) (ds := []) #[false, false, false, false, false, false, false, false, false, false, false, false] (by kernel_rfl) rfl rfl (SB.out _ (below_drew1 HB.out)) (fun hHeld => ?_)
          refine with_tabW quo_tab12 quo_bits12 (fun HT_ HW_ => ?_)
          have HO3 := Aside0.mk (Kd.R_drew HO.out)
          have HB3 := Aside0.mk (below_drew1 HB.out)
          clear HO HB
          generalize wr.drew = w3 at HO3 HB3 hHeld ⊢
          refine pure_ (i := 0) (N := some 39) (v := ?_) (a' := ?_) #[true, false, false, false, false, false, false, false, false, false, false, false] rfl rfl (any_of HT_.out (by kernel_rfl)) (fun _ _ _ h => h) (Or.inl ⟨by rfl, ?_⟩) ?_ ?_
          rotate_left
          · intro w'
            go_simp
            with_reducible rfl
          rotate_left
          · simp only [Act.put, List.setIfInBounds_toArray, List.set_cons_zero, List.set_cons_succ, i64_w, i32_w]
            rfl
          refine take_ (i := 1) (N := some 40) (v := ?_) (a' := ?_) #[true, true, false, false, false, false, false, false, false, false, false, false] rfl rfl (take_ofW HT_.out HW_.out (by kernel_rfl)) (fun _ _ _ h => h) (Or.inl ⟨by rfl, ?_⟩) hHeld ?_ ?_
          rotate_left
          · rintro w' ⟨s0, s1, s2, s3⟩
            go_simp
            with_reducible rfl
          rotate_left
          · simp only [Act.put, List.setIfInBounds_toArray, List.set_cons_zero, List.set_cons_succ, i64_w, i32_w]
            rfl
          refine take_ (i := 2) (N := some 41) (v := ?_) (a' := ?_) #[true, true, true, false, false, false, false, false, false, false, false, false] rfl rfl (take_ofW HT_.out HW_.out (by kernel_rfl)) (fun _ _ _ h => h) (Or.inl ⟨by rfl, ?_⟩) hHeld ?_ ?_
          rotate_left
          · rintro w' ⟨s0, s1, s2, s3⟩
            go_simp
            with_reducible rfl
          rotate_left
          · simp only [Act.put, List.setIfInBounds_toArray, List.set_cons_zero, List.set_cons_succ, i64_w, i32_w]
            rfl
          refine pure_ (i := 3) (N := some 42) (v := ?_) (a' := ?_) #[true, true, true, true, false, false, false, false, false, false, false, false] rfl rfl (any_of HT_.out (by kernel_rfl)) (fun _ _ _ h => h) (Or.inl ⟨by rfl, ?_⟩) ?_ ?_
          rotate_left
          · intro w'
            go_simp
            with_reducible rfl
          rotate_left
          · simp only [Act.put, List.setIfInBounds_toArray, List.set_cons_zero, List.set_cons_succ, i64_w, i32_w]
            rfl
          refine pure_ (i := 4) (N := some 43) (v := ?_) (a' := ?_) #[true, true, true, true, true, false, false, false, false, false, false, false] rfl rfl (any_of HT_.out (by kernel_rfl)) (fun _ _ _ h => h) (Or.inl ⟨by rfl, ?_⟩) ?_ ?_
          rotate_left
          · intro w'
            go_simp
            with_reducible rfl
          rotate_left
          · simp only [Act.put, List.setIfInBounds_toArray, List.set_cons_zero, List.set_cons_succ, i64_w, i32_w]
            rfl
          refine take_ (i := 5) (N := some 44) (v := ?_) (a' := ?_) #[true, true, true, true, true, true, false, false, false, false, false, false] rfl rfl (take_ofW HT_.out HW_.out (by kernel_rfl)) (fun _ _ _ h => h) (Or.inl ⟨by rfl, ?_⟩) hHeld ?_ ?_
          rotate_left
          · rintro w' ⟨s0, s1, s2, s3⟩
            go_simp
            with_reducible rfl
          rotate_left
          · simp only [Act.put, List.setIfInBounds_toArray, List.set_cons_zero, List.set_cons_succ, i64_w, i32_w]
            rfl
          refine pure_ (i := 6) (N := some 45) (v := ?_) (a' := ?_) #[true, true, true, true, true, true, true, false, false, false, false, false] rfl rfl (any_of HT_.out (by kernel_rfl)) (fun _ _ _ h => h) (Or.inl ⟨by rfl, ?_⟩) ?_ ?_
          rotate_left
          · intro w'
            go_simp
            with_reducible rfl
          rotate_left
          · simp only [Act.put, List.setIfInBounds_toArray, List.set_cons_zero, List.set_cons_succ, i64_w, i32_w]
            rfl
          refine take_ (i := 7) (N := some 46) (v := ?_) (a' := ?_) #[true, true, true, true, true, true, true, true, false, false, false, false] rfl rfl (take_ofW HT_.out HW_.out (by kernel_rfl)) (fun _ _ _ h => h) (Or.inl ⟨by rfl, ?_⟩) hHeld ?_ ?_
          rotate_left
          · rintro w' ⟨s0, s1, s2, s3⟩
            go_simp
            with_reducible rfl
          rotate_left
          · simp only [Act.put, List.setIfInBounds_toArray, List.set_cons_zero, List.set_cons_succ, i64_w, i32_w]
            rfl
          refine pure_ (i := 8) (N := some 47) (v := ?_) (a' := ?_) #[true, true, true, true, true, true, true, true, true, false, false, false] rfl rfl (any_of HT_.out (by kernel_rfl)) (fun _ _ _ h => h) (Or.inl ⟨by rfl, ?_⟩) ?_ ?_
          rotate_left
          · intro w'
            go_simp
            with_reducible rfl
          rotate_left
          · simp only [Act.put, List.setIfInBounds_toArray, List.set_cons_zero, List.set_cons_succ, i64_w, i32_w]
            rfl
          refine one_ (i := 9) (N := some 48) #[true, true, true, true, true, true, true, true, true, true, false, false] rfl rfl (one_of HT_.out (by kernel_rfl)) (by decide) (fun K hK => ?_)
          refine value_ (w1 := ?_) (v := ?_) (by rfl) rfl ?_ ?_
          rotate_left 2
          · go_simp
            constructor
            · rfl
            · rfl
          refine hK.out _ _ (SB.out _ (below_alloc HB3.out _)) (fun hHeld => ?_)
          clear hK K
          refine norm_ (a' := ?_) ?_ ?_
          rotate_left
          · show Act.put _ (some 48) _ = _
            simp only [Act.put, List.setIfInBounds_toArray, List.set_cons_zero, List.set_cons_succ, i64_w, i32_w]
            rfl
          refine one_ (i := 10) (N := some 49) #[true, true, true, true, true, true, true, true, true, true, true, false] rfl rfl (one_of HT_.out (by kernel_rfl)) (by decide) (fun K hK => ?_)
          refine Kd.R_append_step (Kd.int .i64) (w0 := w1) w1.heap.size (by rfl) (.tmp 39) (.tmp 48) 22 3 (.int .i64 0) 8 rfl Try.underlying22 info3 rfl (by decide) (by omega) u10 (outQ m ws op k) (qQ m ws op k) [.int .i64 (qQ m ws op k)] (fun _ => True) (fun _ => False) rfl rfl ?aP (fun _ hk => hk.elim) ?aF ?aO ?aB ?aS ?aL ?_; (case aP => exact rfl); (case aF => exact fun _ _ => trivial)
          (case aO => exact HO3.out)
          (case aB => exact HB3.out)
          (case aS => exact below_size HB3.out)
          (case aL => rw [outQ_len]; omega)
          intro v4 w4 ho hb hg hat
          refine hK.out _ _ (SB.out _ hb) (fun hHeld => ?_)
          clear hK K hg hat HO3 HB3
          have HO4 := Aside0.mk ho
          have HB4 := Aside0.mk hb
          clear ho hb
          refine norm_ (a' := ?_) ?_ ?_
          rotate_left
          · show Act.put _ (some 49) _ = _
            simp only [Act.put, List.setIfInBounds_toArray, List.set_cons_zero, List.set_cons_succ, i64_w, i32_w]
            rfl
          refine pure_ (i := 11) (N := some 10) (v := ?_) (a' := ?_) #[true, true, true, true, true, true, true, true, true, true, true, true] rfl rfl (any_of HT_.out (by kernel_rfl)) (fun _ _ _ h => h) (Or.inl ⟨by rfl, ?_⟩) ?_ ?_
          rotate_left
          · intro w'
            go_simp
            with_reducible rfl
          rotate_left
          · simp only [Act.put, List.setIfInBounds_toArray, List.set_cons_zero, List.set_cons_succ, i64_w, i32_w]
            rfl
          refine done_ (done_of HT_.out (by kernel_rfl)) ?_
          clear hHeld HT_ HW_
          obtain ⟨t0, t1, t3, ty⟩ := SB.out w4 HB4.out
          go_wp2_with fail
          go_quiet (fail)
          have HO5 := Aside0.mk (Kd.R_drewN HO4.out nq)
          have HB5 := Aside0.mk (pw_below_drewN HB4.out nq)
          clear HO4 HB4 t0 t1 t3 ty
          generalize w4.drewN nq = w5 at HO5 HB5 ⊢
          go_wp2
          go_roundg (op.length - (k + 1))
          case measure => omega
          case rel => exact ⟨k + 1, by go_num, hlt, Nat.le_refl _, by first | rfl | rw [← hlz], HO5, HB5⟩
        · have hltz : ¬ (k : Int) < (op.length : Int) := by omega
          obtain rfl : k = op.length := by omega
          have CB2 := Lib.hid (fun (W : World) (hb : Go.RowKit.Below wr.heap.size wr W) => (CB.out wr HB.out).kept hb)
          have CL2 := Lib.hid (fun (W : World) (hb : Go.RowKit.Below wr.heap.size wr W) (k : Nat) (hk : k < op.length) => CL.out W (below_step HB.out hb) k hk)
          have hq2 : wr.cell? ⟨w.heap.size + 2, 0, none⟩ = some (.slice (some ad2) op.length c2) := (CB.out wr HB.out).e2
          have HB1 := Lib.hid HB.out
          clear hgk hk hlt hltz CB CL HB
          generalize wr = w2 at *
          go_wp2_with (first | ((with_reducible refine gate_dst (N := 61) rfl ?_); refine Kd.R_lit (Kd.int .i64) (w0 := w2) w2.heap.size 3 ?hg (N := 61) ?hd (xs := ([] : List Int)) (inner := []) (ok := fun _ => True) (okp := fun _ => True) ?hr ?hp (fun _ hk => hk) trivial (Below.refl _ _) (Nat.le_refl _) (by simp) ?_; (case hd => rfl); (case hg => rfl); (case hr => first | (go_simp; done) | (go_simp; rfl)); (case hp => exact (Reps.none _ _)); intro vord wB hoB hbB hg_ hnew_; clear hg_ hnew_ hq2; have HOR := Aside0.mk hoB; have HB2 := Aside0.mk hbB; clear hoB hbB; have hq2 := (CB2.out _ HB2.out).e2))
          go_loopg [14, 64] op.length (fun gk v14 v64 wr => ∃ k : Nat, v64 = .int .i64 k ∧ k ≤ op.length ∧ op.length - k ≤ gk ∧ Aside0 (Kd.R (Kd.int .i64) 3 wr w2.heap.size (fun _ => True) v14 (ordQ k)) ∧ Aside0 (Below w2.heap.size w2 wr))
          case atStart => exact ⟨0, rfl, by omega, by omega, HOR, HB2⟩
          case round =>
            clear HOR HB2 hq2
            obtain ⟨k, rfl, hk, hgk, HOR, HB2⟩ := hrel
            by_cases hlt : k < op.length
            · have hltz : (k : Int) < (op.length : Int) := by omega
              have hk64 := HP.out.n1
              go_wp2_with (first | ((with_reducible refine gate_builtin (b := .append) (xs := #[.tmp 67, .tmp 69]) rfl ?_); at_builtin; refine Kd.R_append (Kd.int .i64) (w0 := w2) w2.heap.size rfl (.tmp 67) (.tmp 69) 22 3 (.int .i64 0) 8 rfl Try.underlying22 info3 rfl (by decide) (by omega) u14 (ordQ k) (k : Int) [.int .i64 (k : Int)] (fun _ => True) (fun _ => False) rfl rfl ?aP (fun _ hk => hk.elim) ?aF ?aO ?aB ?aS ?aL ?_; (case aP => exact rfl); (case aF => exact fun _ _ => trivial); (case aO => exact HOR.out); (case aB => exact HB2.out); (case aS => exact below_size HB2.out); (case aL => rw [ordQ_len]; omega); intro v4 w4 ho hb hg hat; clear hg hat; rw [← ordQ_succ] at ho; have HO4 := Aside0.mk ho; have HB4 := Aside0.mk hb; clear ho hb HOR HB2))
              go_roundg (op.length - (k + 1))
              case measure => omega
              case rel => exact ⟨k + 1, by go_num, hlt, Nat.le_refl _, HO4, HB4⟩
            · have hltz : ¬ (k : Int) < (op.length : Int) := by omega
              obtain rfl : k = op.length := by omega
              obtain ⟨g, cap, hgv, hgb, hgs, _⟩ := Kd.R_form HOR.out (by rw [ordQ_len]; exact HP.out.n0)
              rw [ordQ_len] at hgv
              subst hgv
              have HGC : Hid (∀ t, t < op.length → wr.cell? ⟨g, t, none⟩ = some (.int .i64 (t : Int)) ∧ wr.frozen? ⟨g, t, none⟩ = false) := Lib.hid (fun t ht => by
                have h := Kd.R_celln 0 HOR.out (t : Int) (by omega) (by omega)
                rw [Int.toNat_natCast] at h
                exact ⟨h.1.trans (by rw [show rdOf 0 (ordQ op.length) (t : Int) = (t : Int) from ordQ_rd ht]), h.2⟩)
              have hcap := (Kd.R_reads' HOR.out).2.1
              have HQ3 := CB2.out wr HB2.out
              have hlt3 := (CB2.out w2 (Below.refl _ _)).lt
              have hBW2 := below_size (below_step HBW.out HB1.out)
              have hs := quoSort HP.out HQ3 g cap (by omega) hgs (fun k hk => CL2.out wr HB2.out k hk) (by have := HA1.out; omega) (by have := HA2.out; omega) HGC.out
              have HBASE := Lib.hid (Kd.R_base HOR.out)
              obtain ⟨Ln, hL⟩ : ∃ Ln : Nat, leftQ m ws op op.length = (Ln : Int) := ⟨(leftQ m ws op op.length).toNat, by have := (left_bound HP.out).1; omega⟩
              have hLn : Ln < op.length := by have := (left_bound HP.out).2; omega
              have HQL := Lib.hid hL
              have hk64 := HP.out.n1
              clear hgk hk hlt hltz HQ3
              go_wp2_with fail
              refine hs.mono ?_
              rintro e w4 ⟨rfl, hbs, p, hR, hpc⟩
              have HB4 := Aside0.mk (Below.trans HB2.out (⟨hbs.os, hbs.tape, hbs.output, hbs.size, fun k hk => hbs.block k (by omega)⟩ : Go.RowKit.Below w2.heap.size wr w4))
              have ho4 := Kd.R_elder' HO.out HBASE.out HB4.out
              rw [← outE_zero p] at ho4
              obtain ⟨go, co, hgo, hgo1, hgo2, _⟩ := Kd.R_form ho4 (by rw [outE_len]; exact HP.out.n0)
              rw [outE_len] at hgo
              subst hgo
              have hne : go ≠ g := fun e => (ho4.1 go rfl).2 (by rw [e]; rfl)
              have HO4 := Aside0.mk ho4
              have HC4 := Aside0.mk hpc
              have HR := Aside0.mk hR
              have HBB := Aside0.mk (below_step HB1.out HB4.out)
              clear ho4 hpc hR hbs hs HO HOR HB2 HB4 CB2 CL2 HGC HBASE hgo2
              go_wp2
              go_loopg [79] Ln (fun gk v79 wr => ∃ k : Nat, v79 = .int .i64 k ∧ k ≤ Ln ∧ Ln - k ≤ gk ∧ Aside0 (Kd.R (Kd.int .i64) 3 wr w1.heap.size (fun k_ => True ∧ some k_ ≠ (Value.slice (some ⟨g, 0, none⟩) op.length cap).ownBlock) (.slice (some ⟨go, 0, none⟩) op.length co) (outE m ws op p k)) ∧ Aside0 (Go.RowKit.Below w1.heap.size w1 wr) ∧ Aside0 (∀ t, t < op.length → wr.cell? ⟨g, t, none⟩ = some (.int .i64 ((p t : Nat) : Int))))
              case atStart => exact ⟨0, rfl, by omega, by omega, HO4, HBB, HC4⟩
              case round =>
                clear HO4 HBB HC4
                obtain ⟨k, rfl, hk, hgk, HO, HB, HC⟩ := hrel
                by_cases hlt : k < Ln
                · have hltz : (k : Int) < (Ln : Int) := by omega
                  have hkz : (0 : Int) ≤ (k : Int) := by omega
                  have hck := HC.out k (by omega)
                  have hpl := HR.out.lt k (by omega)
                  obtain ⟨hx, hf⟩ := Kd.R_celln 0 HO.out ((p k : Nat) : Int) (by omega) (by omega)
                  rw [Int.toNat_natCast] at hx hf
                  have hv := outE_rd (m := m) (ws := ws) p k hpl
                  have hq := qQ_bound HP.out hpl
                  obtain ⟨z, hz⟩ : ∃ z, rdOf 0 (outE m ws op p k) ((p k : Nat) : Int) = z := ⟨_, rfl⟩
                  have hz2 : rd (outE m ws op p k) ((p k : Nat) : Int) = z := hz
                  have hzb : 0 ≤ z ∧ z ≤ 10000001 := by
                    rw [← hz2, hv]
                    split <;> omega
                  have ho2 := Kd.R_putn HO.out ((p k : Nat) : Int) (z + 1)
                  rw [Int.toNat_natCast, ← hz2, outE_step HR.out (show k < op.length by omega), hz2] at ho2
                  rw [hz] at hx
                  have HO2 := Aside0.mk ho2
                  have HB3 := Aside0.mk (below_set (j := p k) (v := .int .i64 (z + 1)) HB.out hgo1)
                  have HC2 : Aside0 (∀ t, t < op.length → (wr.setCell ⟨go, p k, none⟩ (.int .i64 (z + 1))).cell? ⟨g, t, none⟩ = some (.int .i64 ((p t : Nat) : Int))) := ⟨fun t ht => (cell_far (by show g ≠ go; exact fun e => hne e.symm) _).trans (HC.out t ht)⟩
                  obtain ⟨x, hxp⟩ : ∃ x, p k = x := ⟨_, rfl⟩
                  rw [hxp] at hck hpl hx hf HO2 HB3 HC2
                  clear hv hq hz hz2 ho2 HO HB HC hxp
                  go_wp2
                  go_roundg (Ln - (k + 1))
                  case measure => omega
                  case rel => exact ⟨k + 1, by go_num, hlt, Nat.le_refl _, HO2, HB3, HC2⟩
                · have hltz : ¬ (k : Int) < (Ln : Int) := by omega
                  obtain rfl : k = Ln := by omega
                  go_wp2
                  go_ret
                  have he := outE_last p HP.out
                  rw [HQL.out, Int.toNat_natCast] at he
                  have ho := HO.out
                  rw [he] at ho
                  exact ⟨_, rfl, Kd.R_lower (Kd.R_mono ho (fun _ _ => trivial)) (below_size HBW.out), below_step HBW.out HB.out⟩
end Go.Proofs.Yteilcchcekmooaa.G

/- G23 -/
-- Laid by wip/g/gprint.py out of the translation, by the kit's print program. Lean checks it.
namespace Go.Proofs.Yteilcchcekmooaa.G
open Go.RowKit Go.Proofs.YteilcchcekmooaaW.PrintWords Go.Proofs.YteilcchcekmooaaW.PrintLast Go.Proofs.YteilcchcekmooaaW.PrintMore
attribute [local go_sem] max2_int min2_int max_two min_two max_three min_three max_four min_four   -- for this text's walks alone
set_option linter.unusedVariables false
set_option linter.unusedSimpArgs false

/-! ### impl_quotas: function 23 -/
--IMPORT Derived.Test.YteilcchcekmooaaPQuoB
def quoOk (m : Int) (ws op : List Int) : Bool := decide (0 ≤ m) && decide (m ≤ 10000) && decide (0 < op.length) && decide (op.length ≤ 64) && (List.range op.length).all (fun k => decide (0 ≤ rd op (k : Int)) && decide (rd op (k : Int) < (ws.length : Int)) && decide (1 ≤ rd ws (rd op (k : Int))) && decide (rd ws (rd op (k : Int)) ≤ 1000))
theorem quoOk_iff {m : Int} {ws op : List Int} : quoOk m ws op = true ↔ QPre m ws op := by
  unfold quoOk
  simp only [Bool.and_eq_true, decide_eq_true_eq, List.all_eq_true, List.mem_range]
  exact ⟨fun h => ⟨h.1.1.1.1, h.1.1.1.2, h.1.1.2, h.1.2, fun k hk => ⟨(h.2 k hk).1.1.1, (h.2 k hk).1.1.2, (h.2 k hk).1.2, (h.2 k hk).2⟩⟩, fun h => ⟨⟨⟨⟨h.m0, h.m1⟩, h.n0⟩, h.n1⟩, fun k hk => ⟨⟨⟨(h.at_ k hk).1, (h.at_ k hk).2.1⟩, (h.at_ k hk).2.2.1⟩, (h.at_ k hk).2.2.2⟩⟩⟩
def impl_quotas.f (a0 : Int) (l1 : List Int) (l2 : List Int) : Option (List Int) := if quoOk a0 l1 l2 = true then some (quoL a0 l1 l2) else none
theorem impl_quotas.calls (a0 : Int) (A1 : Option Addr) (c1 : Nat) (l1 : List Int) (A2 : Option Addr) (c2 : Nat) (l2 : List Int) (r : List Int) (w : World) (hr1 : Kd.C (Kd.int .i64) w A1 l1.length l1) (hc1 : l1.length ≤ c1) (hr2 : Kd.C (Kd.int .i64) w A2 l2.length l2) (hc2 : l2.length ≤ c2) (h : impl_quotas.f a0 l1 l2 = some r) :
    Calls Try.prog 23 #[.int .i64 a0, .slice A1 l1.length c1, .slice A2 l2.length c2] w fun e w' => ∃ v0_ : Value, e = .returned (v0_) ∧ Kd.R (Kd.int .i64) 3 w' w.heap.size (fun _ => True) v0_ r ∧ Below w.heap.size w w' := by
  unfold impl_quotas.f at h
  by_cases hq : quoOk a0 l1 l2 = true
  · rw [if_pos hq] at h
    obtain rfl := Option.some.inj h
    exact quotas_walk a0 l1 l2 A1 c1 A2 c2 w hr1 hc1 hr2 hc2 (quoOk_iff.1 hq)
  · rw [if_neg hq] at h
    cases h

end Go.Proofs.Yteilcchcekmooaa.G
