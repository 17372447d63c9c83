import Derived.Test.YtbdegifmcppciaaMFnFitted1
import Derived.Deep.RegionWith
import Derived.ChangeKeysEq
import Derived.Laws.StructEq
import Derived.ChangeArms
import Derived.ChangeShapes
import Derived.DataReads
import Derived.Test.YtbdegifmcppciaaProg
import Derived.WideShapes
import Derived.KernelRfl
import Derived.Test.YtbdegifmcppciaaRows
import Derived.WalkKit
import Derived.ProofKit
import Derived.OpenShut
import Derived.ShutString
import Derived.ChangeOld
import Derived.Carry
import Derived.Below
import Derived.Handed
/- G61 -/
-- Laid by wip/g/gprint.py out of the translation, by the kit's print program. Lean checks it.
namespace Go.Proofs.Ytbdegifmcppciaa.G
open Go.RowKit Go.Proofs.YtbdegifmcppciaaW.PrintWords Go.Proofs.YtbdegifmcppciaaW.PrintLast Go.Proofs.YtbdegifmcppciaaW.PrintMore
attribute [local go_sem] max2_int min2_int max_two min_two max_three min_three max_four min_four   -- for this text's walks alone
set_option linter.unusedVariables false
set_option linter.unusedSimpArgs false

/-! ### spec_l3Amount: function 61 -/
def spec_l3Amount.f (s0_0 : List Int) (s0_1 : Int) (s0_2 : Int) : Option (Int × Int × Int) := (spec_l1Below.f s0_0 s0_1 s0_2 100000).bind fun bt265 => ((spec_l1Below.f s0_0 bt265.2.1 bt265.2.2 100).bind fun bt268 => ((spec_l1Int.f s0_0 bt268.2.1 bt268.2.2 (([0, 1, 500, 1000, 2000, 1024000, 1048576000, 3221225472000, 1000000000000000, bt265.1, wrap64 (bt268.1 * 1000)] : List Int))).bind fun bt274 => (some (bt274.1, bt274.2.1, bt274.2.2))))
set_option maxHeartbeats 8000000 in
set_option maxRecDepth 100000 in
theorem spec_l3Amount.calls (g : Nat) (s0_0 : List Int) (s0_1 : Int) (s0_2 : Int) (r1 : Int) (r2 : Int) (r3 : Int) (w0 w : World) (hI : IsS75 w0 w g s0_0 s0_1 s0_2) (hB : Below w0.heap.size w0 w) (h : spec_l3Amount.f s0_0 s0_1 s0_2 = some (r1, r2, r3)) :
    Calls Try.prog 61 #[.pointer (some ⟨g, 0, none⟩)] w fun e w' => e = .returned (.int .i64 r1) ∧ IsS75 w0 w' g s0_0 r2 r3 ∧ Below w0.heap.size w0 w' ∧ KeepBut w w' g none := by
  have HI0 := Aside0.mk hI
  have HK := Aside0.mk (KeepBut.refl w g none)
  have HL := Aside0.mk hB.size
  clear hI
  have HW0 := Aside0.mk hB.size
  have HB := Aside0.mk hB
  clear hB
  have H : ((spec_l1Below.f s0_0 s0_1 s0_2 100000).bind fun bt265 => ((spec_l1Below.f s0_0 bt265.2.1 bt265.2.2 100).bind fun bt268 => ((spec_l1Int.f s0_0 bt268.2.1 bt268.2.2 (([0, 1, 500, 1000, 2000, 1024000, 1048576000, 3221225472000, 1000000000000000, bt265.1, wrap64 (bt268.1 * 1000)] : List Int))).bind fun bt274 => (some (bt274.1, bt274.2.1, bt274.2.2))))) = some (r1, r2, r3) := h
  clear h
  replace H := Option.bind_eq_some_iff.mp H
  obtain ⟨⟨t265, t266, t267⟩, A20, H⟩ := H
  replace H : ((spec_l1Below.f s0_0 t266 t267 100).bind fun bt268 => ((spec_l1Int.f s0_0 bt268.2.1 bt268.2.2 (([0, 1, 500, 1000, 2000, 1024000, 1048576000, 3221225472000, 1000000000000000, t265, wrap64 (bt268.1 * 1000)] : List Int))).bind fun bt274 => (some (bt274.1, bt274.2.1, bt274.2.2)))) = some (r1, r2, r3) := H
  have A2 := Aside0.mk A20
  clear A20
  replace H := Option.bind_eq_some_iff.mp H
  obtain ⟨⟨t268, t269, t270⟩, A30, H⟩ := H
  replace H : ((spec_l1Int.f s0_0 t269 t270 (([0, 1, 500, 1000, 2000, 1024000, 1048576000, 3221225472000, 1000000000000000, t265, wrap64 (t268 * 1000)] : List Int))).bind fun bt274 => (some (bt274.1, bt274.2.1, bt274.2.2))) = some (r1, r2, r3) := H
  have A3 := Aside0.mk A30
  clear A30
  obtain ⟨y271, hy271⟩ : ∃ y_ : List Int, y_ = (([0, 1, 500, 1000, 2000, 1024000, 1048576000, 3221225472000, 1000000000000000, t265, wrap64 (t268 * 1000)] : List Int)) := ⟨_, rfl⟩
  replace H : ((spec_l1Int.f s0_0 t269 t270 y271).bind fun bt274 => (some (bt274.1, bt274.2.1, bt274.2.2))) = some (r1, r2, r3) := by first | (rw [hy271]; with_reducible exact H) | (have H2_ := (Option.bind_some _ _).symm.trans H; rw [hy271]; with_reducible exact H2_) | (have H2_ := (Option.bind_some _ _).symm.trans H; with_reducible exact H2_) | with_reducible exact H | (rw [hy271]; exact H) | exact H
  have Ny271 := Aside0.mk hy271
  clear hy271
  replace H := Option.bind_eq_some_iff.mp H
  obtain ⟨⟨t274, t275, t276⟩, A40, H⟩ := H
  replace H : (some (t274, t275, t276)) = some (r1, r2, r3) := H
  have A4 := Aside0.mk A40
  clear A40
  simp only [Option.some.injEq, Prod.mk.injEq] at H
  obtain ⟨rfl, rfl, rfl⟩ := H
  go_enter Try.func61, Try.ntmps61
  go_wp2_with (first | ((with_reducible refine gate_callee (f := 64) rfl ?_); refine goesL_ (some 5) rfl rfl Try.func64 (by kernel_rfl) rfl #[.pointer (some ⟨g, 0, none⟩), .int .i64 100000] rfl (by (try simp only [List.map_toArray, List.map_cons, List.map_nil]); first | done | rfl | (simp only [List.length_drop, List.length_take]; rfl)) ?_; (with_reducible refine (spec_l1Below.calls g s0_0 s0_1 s0_2 100000 t265 t266 t267 w0 _ ?side1 ?side2 A2.out).mono ?_); (case side1 => repeat (first | (with_reducible first | exact HI0.out | apply IsS75.alloc | apply IsS75.drewN | apply IsS75.drew | apply IsS75.set_1 | apply IsS75.set_2) | exact HI0.out)); (case side2 => repeat (first | (with_reducible first | exact HB.out | apply below_alloc | apply pw_below_drewN | apply below_drew1 | refine below_set ?_ (IsS75.ge HI0.out)) | exact HB.out)); rintro e w5 ⟨rfl, hi, hb, hk⟩; refine ⟨_, rfl, ?_⟩; have n0_ := Aside0.mk (KeepBut.trans (by repeat (first | (with_reducible first | exact HK.out | apply KeepBut.set_ | apply keep_drewN | apply keep_drew | apply keep_alloc) | exact HK.out)) hk (.inl rfl)); have n1_ := Aside0.mk (hb); have n2_ := Aside0.mk (hi); clear HK; clear HB; clear HI0; have HK := n0_; have HB := n1_; have HI0 := n2_; clear n0_ n1_ n2_; (try clear hb); (try clear hb2); (try clear hk); (try clear hi)) | ((with_reducible refine gate_callee (f := 64) rfl ?_); refine goesL_ (some 7) rfl rfl Try.func64 (by kernel_rfl) rfl #[.pointer (some ⟨g, 0, none⟩), .int .i64 100] rfl (by (try simp only [List.map_toArray, List.map_cons, List.map_nil]); first | done | rfl | (simp only [List.length_drop, List.length_take]; rfl)) ?_; (with_reducible refine (spec_l1Below.calls g s0_0 t266 t267 100 t268 t269 t270 w0 _ ?side1 ?side2 A3.out).mono ?_); (case side1 => repeat (first | (with_reducible first | exact HI0.out | apply IsS75.alloc | apply IsS75.drewN | apply IsS75.drew | apply IsS75.set_1 | apply IsS75.set_2) | exact HI0.out)); (case side2 => repeat (first | (with_reducible first | exact HB.out | apply below_alloc | apply pw_below_drewN | apply below_drew1 | refine below_set ?_ (IsS75.ge HI0.out)) | exact HB.out)); rintro e w6 ⟨rfl, hi, hb, hk⟩; refine ⟨_, rfl, ?_⟩; have n0_ := Aside0.mk (KeepBut.trans (by repeat (first | (with_reducible first | exact HK.out | apply KeepBut.set_ | apply keep_drewN | apply keep_drew | apply keep_alloc) | exact HK.out)) hk (.inl rfl)); have n1_ := Aside0.mk (hb); have n2_ := Aside0.mk (hi); clear HK; clear HB; clear HI0; have HK := n0_; have HB := n1_; have HI0 := n2_; clear n0_ n1_ n2_; (try clear hb); (try clear hb2); (try clear hk); (try clear hi)) | ((with_reducible refine gate_dst (N := 9) rfl ?_); refine Kd.R_lit (Kd.int .i64) _ 3 ?hg (N := 9) ?hd (xs := ([0, 1, 500, 1000, 2000, 1024000, 1048576000, 3221225472000, 1000000000000000, t265, wrap64 (t268 * 1000)] : List Int)) (inner := [.int .i64 0, .int .i64 1, .int .i64 500, .int .i64 1000, .int .i64 2000, .int .i64 1024000, .int .i64 1048576000, .int .i64 3221225472000, .int .i64 1000000000000000, .int .i64 t265, .int .i64 (wrap64 (t268 * 1000))]) (ok := fun _ => True) (okp := fun _ => True) ?hr ?hp (fun _ hk => hk) trivial (Below.refl _ _) (Nat.le_refl _) (by simp) ?_; (case hd => rfl); (case hg => rfl); (case hr => first | (go_simp; done) | (go_simp; rfl)); (case hp => exact (Reps.one (show Kd.M (Kd.int .i64) _ _ _ 0 [.int .i64 0] from rfl) (Reps.one (show Kd.M (Kd.int .i64) _ _ _ 1 [.int .i64 1] from rfl) (Reps.one (show Kd.M (Kd.int .i64) _ _ _ 500 [.int .i64 500] from rfl) (Reps.one (show Kd.M (Kd.int .i64) _ _ _ 1000 [.int .i64 1000] from rfl) (Reps.one (show Kd.M (Kd.int .i64) _ _ _ 2000 [.int .i64 2000] from rfl) (Reps.one (show Kd.M (Kd.int .i64) _ _ _ 1024000 [.int .i64 1024000] from rfl) (Reps.one (show Kd.M (Kd.int .i64) _ _ _ 1048576000 [.int .i64 1048576000] from rfl) (Reps.one (show Kd.M (Kd.int .i64) _ _ _ 3221225472000 [.int .i64 3221225472000] from rfl) (Reps.one (show Kd.M (Kd.int .i64) _ _ _ 1000000000000000 [.int .i64 1000000000000000] from rfl) (Reps.one (show Kd.M (Kd.int .i64) _ _ _ t265 [.int .i64 t265] from rfl) (Reps.one (show Kd.M (Kd.int .i64) _ _ _ (wrap64 (t268 * 1000)) [.int .i64 (wrap64 (t268 * 1000))] from rfl) (Reps.none _ _))))))))))))); intro v272 w7 ho8 hb hg_ hnew_; clear hg_ hnew_; (first | rw [← Ny271.out] at ho8 | (simp only [Int.reduceToNat] at ho8; rw [← Ny271.out] at ho8)); have n0_ := Aside0.mk (Kd.R_lower ho8 (keep_size (w := w) (g := g) (row := none) (by repeat (first | (with_reducible first | exact HK.out | apply KeepBut.set_ | apply keep_drewN | apply keep_drew | apply keep_alloc) | exact HK.out)))); have n1_ := Aside0.mk (IsS75.below (by repeat (first | (with_reducible first | exact HI0.out | apply IsS75.alloc | apply IsS75.drewN | apply IsS75.drew | apply IsS75.set_1 | apply IsS75.set_2) | exact HI0.out)) hb); have n2_ := Aside0.mk (KeepBut.trans (by repeat (first | (with_reducible first | exact HK.out | apply KeepBut.set_ | apply keep_drewN | apply keep_drew | apply keep_alloc) | exact HK.out)) (KeepBut.of_below hb g none) (.inl rfl)); have n3_ := Aside0.mk (below_step (by repeat (first | (with_reducible first | exact HB.out | apply below_alloc | apply pw_below_drewN | apply below_drew1 | refine below_set ?_ (IsS75.ge HI0.out)) | exact HB.out)) hb); clear HI0; clear HK; clear HB; have HO273 := n0_; have HI0 := n1_; have HK := n2_; have HB := n3_; clear n0_ n1_ n2_ n3_; clear hb ho8; obtain ⟨Ao9, co9, eo9⟩ := Kd.R_slice HO273.out; subst eo9) | ((with_reducible refine gate_callee (f := 63) rfl ?_); refine goesL_ (some 10) rfl rfl Try.func63 (by kernel_rfl) rfl #[.pointer (some ⟨g, 0, none⟩), .slice Ao9 y271.length co9] rfl (by (try simp only [List.map_toArray, List.map_cons, List.map_nil]); first | done | rfl | (simp only [List.length_drop, List.length_take]; rfl)) ?_; (with_reducible refine (spec_l1Int.calls g s0_0 t269 t270 _ _ y271 t274 t275 t276 w0 _ ?side1 ?side2 ?side3 ?side4 ?side5 A4.out).mono ?_); (case side1 => repeat (first | (with_reducible first | exact HI0.out | apply IsS75.alloc | apply IsS75.drewN | apply IsS75.drew | apply IsS75.set_1 | apply IsS75.set_2) | exact HI0.out)); (case side2 => repeat (first | (with_reducible first | exact HB.out | apply below_alloc | apply pw_below_drewN | apply below_drew1 | refine below_set ?_ (IsS75.ge HI0.out)) | exact HB.out)); (case side3 => repeat (first | exact (Kd.R_reads' HO273.out).2.2 | (with_reducible refine Kd.C_alloc ?_ _) | (with_reducible refine Kd.C_drewN ?_ _) | (with_reducible refine Kd.C_drew ?_))); (case side4 => exact (Kd.R_reads' HO273.out).2.1); (case side5 => exact far_slice (IsS75.own_ne HI0.out HO273.out (by decide))); rintro e w10 ⟨rfl, hi, hb, hk⟩; refine ⟨_, rfl, ?_⟩; have n0_ := Aside0.mk (Kd.R_mono (Kd.R_keep (IsS75.apart (show IsS75 w0 _ g s0_0 t269 t270 from by repeat (first | (with_reducible first | exact HI0.out | apply IsS75.alloc | apply IsS75.drewN | apply IsS75.drew | apply IsS75.set_1 | apply IsS75.set_2) | exact HI0.out)) (by (with_reducible repeat (first | apply Kd.R_alloc | apply Kd.R_drewN | apply Kd.R_drew)); exact HO273.out) (by decide)) hk (fun _ h => h.2)) (fun _ h => h.1)); have n1_ := Aside0.mk (KeepBut.trans (by repeat (first | (with_reducible first | exact HK.out | apply KeepBut.set_ | apply keep_drewN | apply keep_drew | apply keep_alloc) | exact HK.out)) hk (.inl rfl)); have n2_ := Aside0.mk (hb); have n3_ := Aside0.mk (hi); clear HO273; clear HK; clear HB; clear HI0; have HO273 := n0_; have HK := n1_; have HB := n2_; have HI0 := n3_; clear n0_ n1_ n2_ n3_; (try clear hb); (try clear hb2); (try clear hk); (try clear hi)))
  go_ret
  exact ⟨by first | rfl | (simp [errW_none, errW_some] <;> rfl) | (simp [*, errW_none, errW_some] <;> rfl), by repeat (first | (with_reducible first | exact HI0.out | apply IsS75.alloc | apply IsS75.drewN | apply IsS75.drew | apply IsS75.set_1 | apply IsS75.set_2) | exact HI0.out), by repeat (first | (with_reducible first | exact HB.out | apply below_alloc | apply pw_below_drewN | apply below_drew1 | refine below_set ?_ (IsS75.ge HI0.out)) | exact HB.out), by repeat (first | (with_reducible first | exact HK.out | apply KeepBut.set_ | apply keep_drewN | apply keep_drew | apply keep_alloc) | exact HK.out)⟩

end Go.Proofs.Ytbdegifmcppciaa.G

/- G62 -/
-- Laid by wip/g/gprint.py out of the translation, by the kit's print program. Lean checks it.
namespace Go.Proofs.Ytbdegifmcppciaa.G
open Go.RowKit Go.Proofs.YtbdegifmcppciaaW.PrintWords Go.Proofs.YtbdegifmcppciaaW.PrintLast Go.Proofs.YtbdegifmcppciaaW.PrintMore
attribute [local go_sem] max2_int min2_int max_two min_two max_three min_three max_four min_four   -- for this text's walks alone
set_option linter.unusedVariables false
set_option linter.unusedSimpArgs false

/-! ### spec_l1Once: function 62 -/
def spec_l1Once.f (s0_0 : List Int) (s0_1 : Int) (s0_2 : Int) (a1 : Int) : Option (Bool × Int × Int) := (spec_l1Below.f s0_0 s0_1 s0_2 a1).bind fun bt277 => (some ((bt277.1 == 0), bt277.2.1, bt277.2.2))
set_option maxHeartbeats 8000000 in
set_option maxRecDepth 100000 in
theorem spec_l1Once.calls (g : Nat) (s0_0 : List Int) (s0_1 : Int) (s0_2 : Int) (a1 : Int) (r1 : Bool) (r2 : Int) (r3 : Int) (w0 w : World) (hI : IsS75 w0 w g s0_0 s0_1 s0_2) (hB : Below w0.heap.size w0 w) (h : spec_l1Once.f s0_0 s0_1 s0_2 a1 = some (r1, r2, r3)) :
    Calls Try.prog 62 #[.pointer (some ⟨g, 0, none⟩), .int .i64 a1] w fun e w' => e = .returned (.bool r1) ∧ IsS75 w0 w' g s0_0 r2 r3 ∧ Below w0.heap.size w0 w' ∧ KeepBut w w' g none := by
  have HI0 := Aside0.mk hI
  have HK := Aside0.mk (KeepBut.refl w g none)
  have HL := Aside0.mk hB.size
  clear hI
  have HW0 := Aside0.mk hB.size
  have HB := Aside0.mk hB
  clear hB
  have H : ((spec_l1Below.f s0_0 s0_1 s0_2 a1).bind fun bt277 => (some ((bt277.1 == 0), bt277.2.1, bt277.2.2))) = some (r1, r2, r3) := h
  clear h
  replace H := Option.bind_eq_some_iff.mp H
  obtain ⟨⟨t277, t278, t279⟩, A30, H⟩ := H
  replace H : (some ((t277 == 0), t278, t279)) = some (r1, r2, r3) := H
  have A3 := Aside0.mk A30
  clear A30
  simp only [Option.some.injEq, Prod.mk.injEq] at H
  obtain ⟨rfl, rfl, rfl⟩ := H
  go_enter Try.func62, Try.ntmps62
  go_wp2_with (first | ((with_reducible refine gate_callee (f := 64) rfl ?_); refine goesL_ (some 7) rfl rfl Try.func64 (by kernel_rfl) rfl #[.pointer (some ⟨g, 0, none⟩), .int .i64 a1] rfl (by (try simp only [List.map_toArray, List.map_cons, List.map_nil]); first | done | rfl | (simp only [List.length_drop, List.length_take]; rfl)) ?_; (with_reducible refine (spec_l1Below.calls g s0_0 s0_1 s0_2 a1 t277 t278 t279 w0 _ ?side1 ?side2 A3.out).mono ?_); (case side1 => repeat (first | (with_reducible first | exact HI0.out | apply IsS75.alloc | apply IsS75.drewN | apply IsS75.drew | apply IsS75.set_1 | apply IsS75.set_2) | exact HI0.out)); (case side2 => repeat (first | (with_reducible first | exact HB.out | apply below_alloc | apply pw_below_drewN | apply below_drew1 | refine below_set ?_ (IsS75.ge HI0.out)) | exact HB.out)); rintro e w4 ⟨rfl, hi, hb, hk⟩; refine ⟨_, rfl, ?_⟩; have n0_ := Aside0.mk (KeepBut.trans (by repeat (first | (with_reducible first | exact HK.out | apply KeepBut.set_ | apply keep_drewN | apply keep_drew | apply keep_alloc) | exact HK.out)) hk (.inl rfl)); have n1_ := Aside0.mk (hb); have n2_ := Aside0.mk (hi); clear HK; clear HB; clear HI0; have HK := n0_; have HB := n1_; have HI0 := n2_; clear n0_ n1_ n2_; (try clear hb); (try clear hb2); (try clear hk); (try clear hi)))
  go_ret
  exact ⟨by first | rfl | (simp [errW_none, errW_some] <;> rfl) | (simp [*, errW_none, errW_some] <;> rfl), by repeat (first | (with_reducible first | exact HI0.out | apply IsS75.alloc | apply IsS75.drewN | apply IsS75.drew | apply IsS75.set_1 | apply IsS75.set_2) | exact HI0.out), by repeat (first | (with_reducible first | exact HB.out | apply below_alloc | apply pw_below_drewN | apply below_drew1 | refine below_set ?_ (IsS75.ge HI0.out)) | exact HB.out), by repeat (first | (with_reducible first | exact HK.out | apply KeepBut.set_ | apply keep_drewN | apply keep_drew | apply keep_alloc) | exact HK.out)⟩

end Go.Proofs.Ytbdegifmcppciaa.G

/- G40 -/
-- Laid by wip/g/gprint.py out of the translation, by the kit's print program. Lean checks it.
namespace Go.Proofs.Ytbdegifmcppciaa.G
open Go.RowKit Go.Proofs.YtbdegifmcppciaaW.PrintWords Go.Proofs.YtbdegifmcppciaaW.PrintLast Go.Proofs.YtbdegifmcppciaaW.PrintMore
attribute [local go_sem] max2_int min2_int max_two min_two max_three min_three max_four min_four   -- for this text's walks alone
set_option linter.unusedVariables false
set_option linter.unusedSimpArgs false

/-! ### laws_big: function 40 -/
def laws_big.f (l0 : List Int) : Option (Bool) := some (decide ((l0.length : Int) > 1048576))
set_option maxHeartbeats 8000000 in
set_option maxRecDepth 100000 in
theorem laws_big.calls (A0 : Option Addr) (c0 : Nat) (l0 : List Int) (r : Bool) (w : World) (hr0 : Kd.C (Kd.int .u8) w A0 l0.length l0) (hc0 : l0.length ≤ c0) (h : laws_big.f l0 = some r) :
    Calls Try.prog 40 #[.slice A0 l0.length c0] w fun e w' => e = .returned (.bool r) ∧ Drawn0 w w' := by
  have HR0 := Aside0.mk hr0
  have HC0 := Aside0.mk hc0
  clear hr0 hc0
  have H : (some (decide ((l0.length : Int) > 1048576))) = some r := h
  clear h
  obtain rfl := Option.some.inj H
  go_enter Try.func40, Try.ntmps40
  go_wp2
  go_ret
  exact ⟨by first | rfl | (simp; done) | (simp [*]; done), by repeat (first | exact Drawn0.refl _ | apply Drawn0.step)⟩

end Go.Proofs.Ytbdegifmcppciaa.G

/- PFit -/
/-
  What FnFitted draws: two amounts, whatever they are.
-/
namespace Go.Proofs.Ytbdegifmcppciaa.G
open Go.RowKit Go.Proofs.YtbdegifmcppciaaW.PrintWords Go.Proofs.YtbdegifmcppciaaW.PrintLast Go.Proofs.YtbdegifmcppciaaW.PrintMore
set_option linter.unusedVariables false
set_option linter.unusedSimpArgs false
theorem tot_one {α : Type} {v : Option α} {Φ : α → Prop} (h : Tot (fun _ => v) Φ) : ∃ a, v = some a ∧ Φ a := by
  obtain ⟨a, ⟨K, hK⟩, hp⟩ := h
  exact ⟨a, hK K (Nat.le_refl _), hp⟩
theorem l1Int_tot (cs : List Int) (p s : Int) (l : List Int) (hc : Cur cs p) (h0 : 0 < l.length) (hl : l.length ≤ 1000) : Tot (fun _ => spec_l1Int.f cs p s l) (fun r => r.1 ∈ l ∧ Cur cs r.2.1) := by
  unfold spec_l1Int.f
  refine Tot.bind (l1Below_tot cs p s _ hc) (fun a ha => ?_)
  have hu := Upto.lt ha.1 (by omega : (0 : Int) < (l.length : Int))
  refine Tot.pos hu.1 (Tot.pos hu.2 (Tot.some ⟨?_, ha.2⟩))
  obtain ⟨i, hi⟩ : ∃ i : Nat, a.1 = i := ⟨a.1.toNat, by omega⟩
  have hil : i < l.length := by omega
  show l.getD a.1.toNat 0 ∈ l
  rw [hi, Int.toNat_natCast, getD_at hil]
  exact List.getElem_mem hil
theorem once_one (cs : List Int) (p s n : Int) (hc : Cur cs p) : ∃ r, spec_l1Once.f cs p s n = some r ∧ Cur cs r.2.1 := by
  refine tot_one ?_
  unfold spec_l1Once.f
  exact Tot.bind (l1Below_tot cs p s n hc) (fun a ha => Tot.some ha.2)
theorem amt_one (cs : List Int) (p s : Int) (hc : Cur cs p) : ∃ r, spec_l3Amount.f cs p s = some r ∧ Cur cs r.2.1 := by
  refine tot_one ?_
  unfold spec_l3Amount.f
  exact Tot.bind (l1Below_tot cs _ _ 100000 hc) (fun c hc' => Tot.bind (l1Below_tot cs _ _ 100 hc'.2) (fun d hd => Tot.bind (l1Int_tot cs _ _ _ hd.2 (by simp) (by simp)) (fun f hf => Tot.some hf.2)))
theorem below_one (cs : List Int) (p s n : Int) (hc : Cur cs p) : ∃ r, spec_l1Below.f cs p s n = some r ∧ Upto n r.1 ∧ Cur cs r.2.1 := tot_one (l1Below_tot cs p s n hc)
theorem int_one (cs : List Int) (p s : Int) (l : List Int) (hc : Cur cs p) (h0 : 0 < l.length) (hl : l.length ≤ 1000) : ∃ r, spec_l1Int.f cs p s l = some r ∧ Cur cs r.2.1 := tot_one ((l1Int_tot cs p s l hc h0 hl).mono (fun _ h => h.2))
theorem keep_fresh {w w1 : World} {g : Nat} {p : Addr} (h : KeepBut w w1 g none) (hp : w.heap.size ≤ p.block) (u : Value) : KeepBut w (w1.setCell p u) g none :=
  ⟨by rw [World.size_setCell]; exact h.1, fun i hi hg hr => (Below.heap_setCell w1 p u i (by omega)).trans (h.2 i hi hg hr)⟩
theorem keep_alloc {w w1 : World} {g : Nat} (h : KeepBut w w1 g none) (o : Obj) : KeepBut w (w1.alloc o) g none := h.trans (KeepBut.of_below (below_alloc (Below.refl _ _) o) g none) (.inl rfl)
theorem amt_open {w : World} {g : Nat} {x : Amt} {t : TypeId} (h : w.heap[g]? = some (.cells x.cs t (0, 0))) : w.cell? ⟨g, 0, none⟩ = some (.int .i64 x.a) ∧ w.cell? ⟨g, 1, none⟩ = some (.int .i64 x.b) ∧ w.cell? ⟨g, 2, none⟩ = some (.int .i64 x.c) ∧ w.frozen? ⟨g, 0, none⟩ = false ∧ w.frozen? ⟨g, 1, none⟩ = false ∧ w.frozen? ⟨g, 2, none⟩ = false :=
  ⟨blk_cell h 0, blk_cell h 1, blk_cell h 2, blk_frozen h 0, blk_frozen h 1, blk_frozen h 2⟩
set_option maxHeartbeats 4000000 in
theorem l3Draw_calls (g : Nat) (s0 : List Int) (s1 s2 : Int) (w0 w : World) (hI : IsS75 w0 w g s0 s1 s2) (hB : Below w0.heap.size w0 w) (hc : Cur s0 s1) :
    Calls Try.prog 57 #[.pointer (some ⟨g, 0, none⟩)] w fun e w' => ∃ (x : Amt) (r2 r3 : Int), e = .returned x.v ∧ IsS75 w0 w' g s0 r2 r3 ∧ Cur s0 r2 ∧ Below w0.heap.size w0 w' ∧ KeepBut w w' g none := by
  obtain ⟨⟨a, p1, q1⟩, e1, hc1⟩ := amt_one s0 s1 s2 hc
  obtain ⟨⟨b, p2, q2⟩, e2, hc2⟩ := amt_one s0 p1 q1 hc1
  obtain ⟨⟨c, p3, q3⟩, e3, hc3⟩ := amt_one s0 p2 q2 hc2
  obtain ⟨⟨f, p4, q4⟩, e4, hc4⟩ := once_one s0 p3 q3 12 hc3
  obtain ⟨⟨x, p5, q5⟩, e5, hx, hc5⟩ := below_one s0 p4 q4 3 hc4
  obtain ⟨⟨y, p6, q6⟩, e6, hc6⟩ := int_one s0 p5 q5 [-1, 1000000000000001, 9223372036854775807] hc5 (by simp) (by simp)
  have hx' := Upto.lt hx (by omega)
  have hgl := hI.lt
  have hge := hI.ge
  have hs0 := hB.size
  have HI := Lib.hid hI
  have HB := Lib.hid hB
  have E1 := Lib.hid e1
  have E2 := Lib.hid e2
  have E3 := Lib.hid e3
  have E4 := Lib.hid e4
  have E5 := Lib.hid e5
  have E6 := Lib.hid e6
  have HC4 := Lib.hid hc4
  have HC6 := Lib.hid hc6
  have HX := Lib.hid hx'
  clear hI hB hc hc1 hc2 hc3 hc4 hc5 hc6 e1 e2 e3 e4 e5 e6 hx hx'
  go_enter Try.func57, Try.ntmps57
  go_wp2_with fail
  refine (spec_l3Amount.calls g s0 s1 s2 a p1 q1 w0 _ (HI.out.alloc _) (below_alloc HB.out _) E1.out).mono ?_
  rintro e wa ⟨rfl, hIa, hBa, hKa⟩
  have GA := Lib.hid (hKa.blk (heap_alloc_new w _) (by omega) (by simp))
  have KA := Lib.hid ((keep_alloc (KeepBut.refl w g none) _).trans hKa (.inl rfl))
  have IA := Lib.hid hIa
  have BA := Lib.hid hBa
  clear hIa hBa hKa
  go_wp2_with fail
  refine (spec_l3Amount.calls g s0 p1 q1 b p2 q2 w0 _ IA.out BA.out E2.out).mono ?_
  rintro e wb ⟨rfl, hIb, hBb, hKb⟩
  have GB := Lib.hid (hKb.blk GA.out (by omega) (by simp))
  have KB := Lib.hid (KA.out.trans hKb (.inl rfl))
  have IB := Lib.hid hIb
  have BB := Lib.hid hBb
  clear hIb hBb hKb GA KA IA BA
  go_wp2_with fail
  refine (spec_l3Amount.calls g s0 p2 q2 c p3 q3 w0 _ IB.out BB.out E3.out).mono ?_
  rintro e wc ⟨rfl, hIc, hBc, hKc⟩
  have GC := Lib.hid (hKc.blk GB.out (by omega) (by simp))
  have KC := Lib.hid (KB.out.trans hKc (.inl rfl))
  have IC := Lib.hid hIc
  have BC := Lib.hid hBc
  have hlc := (KC.out).1
  clear hIc hBc hKc GB KB IB BB
  go_wp2_with fail
  refine (spec_l1Once.calls g s0 p3 q3 12 f p4 q4 w0 _ (IC.out.alloc _) (below_alloc BC.out _) E4.out).mono ?_
  rintro e wd ⟨rfl, hId, hBd, hKd⟩
  have HD : Hid (wd.heap[wc.heap.size]? = some (.cells (Amt.mk a b c).cs 28 (0, 0))) := hKd.blk (heap_alloc_new wc _) (by have := IC.out.lt; omega) (by simp)
  have GD : Hid (wd.heap[w.heap.size]? = some (.cells (Amt.mk 0 0 0).cs 28 (0, 0))) := hKd.blk (blk_alloc GC.out _) (by omega) (by simp)
  have KD := Lib.hid ((keep_alloc KC.out _).trans hKd (.inl rfl))
  have ID := Lib.hid hId
  have BD := Lib.hid hBd
  have hlw := blk_lt GC.out
  clear hId hBd hKd KC
  cases f with
  | false =>
    obtain ⟨c0, c1, c2, _, _, _⟩ := amt_open HD.out
    obtain ⟨d0, d1, d2, f0, f1, f2⟩ := amt_open GD.out
    go_wp2
    have FB := blk_set (blk_set (blk_set GD.out 0 (.int .i64 a)) 1 (.int .i64 b)) 2 (.int .i64 c)
    have FI := ((ID.out.far (p := ⟨w.heap.size, 0, none⟩) (by show g ≠ w.heap.size; omega) (.int .i64 a)).far (p := ⟨w.heap.size, 1, none⟩) (by show g ≠ w.heap.size; omega) (.int .i64 b)).far (p := ⟨w.heap.size, 2, none⟩) (by show g ≠ w.heap.size; omega) (.int .i64 c)
    have FL := below_set (j := 2) (v := .int .i64 c) (below_set (j := 1) (v := .int .i64 b) (below_set (j := 0) (v := .int .i64 a) BD.out hs0) hs0) hs0
    have FK := keep_fresh (p := ⟨w.heap.size, 2, none⟩) (keep_fresh (p := ⟨w.heap.size, 1, none⟩) (keep_fresh (p := ⟨w.heap.size, 0, none⟩) KD.out (Nat.le_refl _) (.int .i64 a)) (Nat.le_refl _) (.int .i64 b)) (Nat.le_refl _) (.int .i64 c)
    generalize ((wd.setCell ⟨w.heap.size, 0, none⟩ (.int .i64 a)).setCell ⟨w.heap.size, 1, none⟩ (.int .i64 b)).setCell ⟨w.heap.size, 2, none⟩ (.int .i64 c) = wf at FB FI FL FK ⊢
    obtain ⟨z0, z1, z2, _, _, _⟩ := amt_open (x := Amt.mk a b c) FB
    exact bodyPost_ret (v := .agg #[.int .i64 a, .int .i64 b, .int .i64 c]) (by simp [results, Try.results57, go_sem, z0, z1, z2]) rfl ⟨⟨a, b, c⟩, p4, q4, rfl, FI, HC4.out, FL, FK⟩
  | true =>
    go_wp2_with fail
    refine (spec_l1Below.calls g s0 p4 q4 3 x p5 q5 w0 _ ID.out BD.out E5.out).mono ?_
    rintro e we ⟨rfl, hIe, hBe, hKe⟩
    have HE := Lib.hid (hKe.blk HD.out (by have := IC.out.lt; omega) (by simp))
    have GE := Lib.hid (hKe.blk GD.out (by omega) (by simp))
    have KE := Lib.hid (KD.out.trans hKe (.inl rfl))
    have IE := Lib.hid hIe
    have BE := Lib.hid hBe
    clear hIe hBe hKe HD GD KD ID BD
    go_wp2_with fail
    have hR : Kd.C (Kd.int .i64) (we.alloc (.cells #[.int .i64 (-1), .int .i64 1000000000000001, .int .i64 9223372036854775807] 3)) (some ⟨we.heap.size, 0, none⟩) ([-1, 1000000000000001, 9223372036854775807] : List Int).length [-1, 1000000000000001, 9223372036854775807] := by
      refine Kd.C_of_reads (d := (0 : Int)) ⟨rfl, by simp, fun _ => ⟨_, rfl, fun j hj => ?_⟩⟩
      rw [add_plain, blk_cell (heap_alloc_new we _)]
      match j, hj with
      | 0, _ => rfl
      | 1, _ => rfl
      | 2, _ => rfl
    refine (spec_l1Int.calls g s0 p5 q5 _ 3 [-1, 1000000000000001, 9223372036854775807] y p6 q6 w0 _ (IE.out.alloc _) (below_alloc BE.out _) hR (by simp) (fun ad had _ => by cases had; show we.heap.size ≠ g; have := IE.out.lt; omega) E6.out).mono ?_
    rintro e wf ⟨rfl, hIf, hBf, hKf⟩
    have HF := Lib.hid (hKf.blk (blk_alloc HE.out _) (by have := IC.out.lt; omega) (by simp))
    have GF := Lib.hid (hKf.blk (blk_alloc GE.out _) (by omega) (by simp))
    have KF := Lib.hid ((keep_alloc KE.out _).trans hKf (.inl rfl))
    have IF := Lib.hid hIf
    have BF := Lib.hid hBf
    have hgc := IC.out.lt
    clear hIf hBf hKf HE GE KE IE BE IC BC
    obtain ⟨i, hi, rfl⟩ : ∃ i : Nat, i < 3 ∧ x = i := ⟨x.toNat, by have := HX.out; omega, by have := HX.out; omega⟩
    obtain ⟨c0, c1, c2, e0, e1, e2⟩ := amt_open HF.out
    have GZ := Lib.hid (blk_far GF.out (p := ⟨wc.heap.size, i, none⟩) (by show w.heap.size ≠ wc.heap.size; omega) (.int .i64 y))
    have IZ := Lib.hid (IF.out.far (p := ⟨wc.heap.size, i, none⟩) (by show g ≠ wc.heap.size; omega) (.int .i64 y))
    have BZ := Lib.hid (below_set (j := i) (v := .int .i64 y) BF.out (show w0.heap.size ≤ wc.heap.size by omega))
    have KZ := Lib.hid (keep_fresh (p := ⟨wc.heap.size, i, none⟩) KF.out hlc (.int .i64 y))
    obtain ⟨d0, d1, d2, f0, f1, f2⟩ := amt_open GF.out
    have hgw : w.heap.size ≠ wc.heap.size := by omega
    have hgw' : wc.heap.size ≠ w.heap.size := by omega
    clear HF GF KF IF BF
    match i, hi with
    | 0, _ =>
      go_wp2
      have FB := blk_set (blk_set (blk_set GZ.out 0 (.int .i64 y)) 1 (.int .i64 b)) 2 (.int .i64 c)
      have FI := ((IZ.out.far (p := ⟨w.heap.size, 0, none⟩) (by show g ≠ w.heap.size; omega) (.int .i64 y)).far (p := ⟨w.heap.size, 1, none⟩) (by show g ≠ w.heap.size; omega) (.int .i64 b)).far (p := ⟨w.heap.size, 2, none⟩) (by show g ≠ w.heap.size; omega) (.int .i64 c)
      have FL := below_set (j := 2) (v := .int .i64 c) (below_set (j := 1) (v := .int .i64 b) (below_set (j := 0) (v := .int .i64 y) BZ.out hs0) hs0) hs0
      have FK := keep_fresh (p := ⟨w.heap.size, 2, none⟩) (keep_fresh (p := ⟨w.heap.size, 1, none⟩) (keep_fresh (p := ⟨w.heap.size, 0, none⟩) KZ.out (Nat.le_refl _) (.int .i64 y)) (Nat.le_refl _) (.int .i64 b)) (Nat.le_refl _) (.int .i64 c)
      generalize (((wf.setCell ⟨wc.heap.size, 0, none⟩ (.int .i64 y)).setCell ⟨w.heap.size, 0, none⟩ (.int .i64 y)).setCell ⟨w.heap.size, 1, none⟩ (.int .i64 b)).setCell ⟨w.heap.size, 2, none⟩ (.int .i64 c) = wz at FB FI FL FK ⊢
      obtain ⟨z0, z1, z2, _, _, _⟩ := amt_open (x := Amt.mk y b c) FB
      exact bodyPost_ret (v := .agg #[.int .i64 y, .int .i64 b, .int .i64 c]) (by simp [results, Try.results57, go_sem, z0, z1, z2]) rfl ⟨⟨y, b, c⟩, p6, q6, rfl, FI, HC6.out, FL, FK⟩
    | 1, _ =>
      go_wp2
      have FB := blk_set (blk_set (blk_set GZ.out 0 (.int .i64 a)) 1 (.int .i64 y)) 2 (.int .i64 c)
      have FI := ((IZ.out.far (p := ⟨w.heap.size, 0, none⟩) (by show g ≠ w.heap.size; omega) (.int .i64 a)).far (p := ⟨w.heap.size, 1, none⟩) (by show g ≠ w.heap.size; omega) (.int .i64 y)).far (p := ⟨w.heap.size, 2, none⟩) (by show g ≠ w.heap.size; omega) (.int .i64 c)
      have FL := below_set (j := 2) (v := .int .i64 c) (below_set (j := 1) (v := .int .i64 y) (below_set (j := 0) (v := .int .i64 a) BZ.out hs0) hs0) hs0
      have FK := keep_fresh (p := ⟨w.heap.size, 2, none⟩) (keep_fresh (p := ⟨w.heap.size, 1, none⟩) (keep_fresh (p := ⟨w.heap.size, 0, none⟩) KZ.out (Nat.le_refl _) (.int .i64 a)) (Nat.le_refl _) (.int .i64 y)) (Nat.le_refl _) (.int .i64 c)
      generalize (((wf.setCell ⟨wc.heap.size, 1, none⟩ (.int .i64 y)).setCell ⟨w.heap.size, 0, none⟩ (.int .i64 a)).setCell ⟨w.heap.size, 1, none⟩ (.int .i64 y)).setCell ⟨w.heap.size, 2, none⟩ (.int .i64 c) = wz at FB FI FL FK ⊢
      obtain ⟨z0, z1, z2, _, _, _⟩ := amt_open (x := Amt.mk a y c) FB
      exact bodyPost_ret (v := .agg #[.int .i64 a, .int .i64 y, .int .i64 c]) (by simp [results, Try.results57, go_sem, z0, z1, z2]) rfl ⟨⟨a, y, c⟩, p6, q6, rfl, FI, HC6.out, FL, FK⟩
    | 2, _ =>
      go_wp2
      have FB := blk_set (blk_set (blk_set GZ.out 0 (.int .i64 a)) 1 (.int .i64 b)) 2 (.int .i64 y)
      have FI := ((IZ.out.far (p := ⟨w.heap.size, 0, none⟩) (by show g ≠ w.heap.size; omega) (.int .i64 a)).far (p := ⟨w.heap.size, 1, none⟩) (by show g ≠ w.heap.size; omega) (.int .i64 b)).far (p := ⟨w.heap.size, 2, none⟩) (by show g ≠ w.heap.size; omega) (.int .i64 y)
      have FL := below_set (j := 2) (v := .int .i64 y) (below_set (j := 1) (v := .int .i64 b) (below_set (j := 0) (v := .int .i64 a) BZ.out hs0) hs0) hs0
      have FK := keep_fresh (p := ⟨w.heap.size, 2, none⟩) (keep_fresh (p := ⟨w.heap.size, 1, none⟩) (keep_fresh (p := ⟨w.heap.size, 0, none⟩) KZ.out (Nat.le_refl _) (.int .i64 a)) (Nat.le_refl _) (.int .i64 b)) (Nat.le_refl _) (.int .i64 y)
      generalize (((wf.setCell ⟨wc.heap.size, 2, none⟩ (.int .i64 y)).setCell ⟨w.heap.size, 0, none⟩ (.int .i64 a)).setCell ⟨w.heap.size, 1, none⟩ (.int .i64 b)).setCell ⟨w.heap.size, 2, none⟩ (.int .i64 y) = wz at FB FI FL FK ⊢
      obtain ⟨z0, z1, z2, _, _, _⟩ := amt_open (x := Amt.mk a b y) FB
      exact bodyPost_ret (v := .agg #[.int .i64 a, .int .i64 b, .int .i64 y]) (by simp [results, Try.results57, go_sem, z0, z1, z2]) rfl ⟨⟨a, b, y⟩, p6, q6, rfl, FI, HC6.out, FL, FK⟩
set_option maxHeartbeats 4000000 in
theorem drawFits_calls (A0 : Option Addr) (c0 : Nat) (l0 : List Int) (w : World) (hr0 : Kd.C (Kd.int .u8) w A0 l0.length l0) (hc0 : l0.length ≤ c0) (hl : l0.length ≤ 1048576) :
    Calls Try.prog 41 #[.slice A0 l0.length c0] w fun e w' => ∃ x y : Amt, e = .returned (.tuple #[x.v, y.v]) ∧ Below w.heap.size w w' := by
  obtain ⟨⟨cs, p, q⟩, hn, hcs, hcur⟩ := l1New_tot l0 hl
  obtain ⟨k, hk⟩ := hn.rounds
  dsimp only at hcs hcur
  subst hcs
  have HN := Lib.hid hk
  have HCU := Lib.hid hcur
  have HR := Lib.hid hr0
  clear hn hk hcur hr0
  go_enter Try.func41, Try.ntmps41
  go_wp2_with fail
  refine (spec_l1New.calls k A0 c0 cs cs p q w _ (below_alloc (below_alloc (Below.refl _ _) _) _) HR.out hc0 HN.out).mono ?_
  rintro e wa ⟨g, rfl, hI, hB, hb⟩
  have G2 := Lib.hid (blk_below (blk_alloc (heap_alloc_new w _) _) hb)
  have G3 : Hid (wa.heap[w.heap.size + 1]? = some (.cells (Amt.mk 0 0 0).cs 28 (0, 0))) := by
    have h_ := blk_below (heap_alloc_new (w.alloc (.cells (Amt.mk 0 0 0).cs 28)) (.cells (Amt.mk 0 0 0).cs 28)) hb
    rw [World.size_alloc] at h_
    exact h_
  have hsz := hb.size
  have HI := Lib.hid hI
  have HB := Lib.hid hB
  clear hI hB hb
  go_wp2_with fail
  refine (l3Draw_calls g cs p q w _ HI.out HB.out HCU.out).mono ?_
  rintro e wb ⟨⟨a, b, c⟩, r2, r3, rfl, hI, hC, hB, hK⟩
  have n2 : w.heap.size ≠ g := fun e => (HI.out.ne_blk G2.out (by decide)) e.symm
  have n3 : w.heap.size + 1 ≠ g := fun e => (HI.out.ne_blk G3.out (by decide)) e.symm
  have J2 := Lib.hid (hK.blk G2.out n2 (by simp))
  have J3 := Lib.hid (hK.blk G3.out n3 (by simp))
  have JI := Lib.hid hI
  have JC := Lib.hid hC
  have JB := Lib.hid hB
  have hsb := hK.1
  clear hI hC hB hK HI HB HCU G2 G3
  unfold Amt.v
  go_wp2_with fail
  have W5 := Lib.hid (heap_alloc_new wb (.cells (Amt.mk a b c).cs 28))
  have W2 := Lib.hid (blk_alloc J2.out (.cells (Amt.mk a b c).cs 28))
  have W3 := Lib.hid (blk_alloc J3.out (.cells (Amt.mk a b c).cs 28))
  have WI := Lib.hid (JI.out.alloc (.cells (Amt.mk a b c).cs 28))
  have WB := Lib.hid (below_alloc JB.out (.cells (Amt.mk a b c).cs 28))
  have hgl := JI.out.lt
  obtain ⟨g5, hg5⟩ : ∃ g5, wb.heap.size = g5 := ⟨_, rfl⟩
  change Code.wp _ _ _ _ (wb.alloc (.cells (Amt.mk a b c).cs 28))
  have hs5 : (wb.alloc (.cells (Amt.mk a b c).cs 28)).heap.size = g5 + 1 := by rw [World.size_alloc, hg5]
  have hsa : w.heap.size + 2 ≤ g5 := by have := blk_lt J3.out; omega
  rw [hg5] at W5 ⊢
  generalize wb.alloc (.cells (Amt.mk a b c).cs 28) = W at W5 W2 W3 WI WB hs5 ⊢
  clear J2 J3 JI JB
  obtain ⟨c0_, c1_, c2_, _, _, _⟩ := amt_open W5.out
  go_region_with (go_at_call 57; (refine (l3Draw_calls g cs r2 r3 w _ (IsS75.drew WI.out) (below_drew WB.out) JC.out).mono ?_); rintro e we ⟨⟨a', b', c'⟩, r2', r3', rfl, hI', hC', hB', hK'⟩; have V5 := Lib.hid (hK'.blk (blk_drew W5.out) (by omega) (by simp)); have V2 := Lib.hid (hK'.blk (blk_drew W2.out) n2 (by simp)); have V3 := Lib.hid (hK'.blk (blk_drew W3.out) n3 (by simp)); have VB := Lib.hid hB'; obtain ⟨k0, k1, k2, _, _, _⟩ := amt_open V5.out; obtain ⟨d0, d1, d2, f0, f1, f2⟩ := amt_open (x := Amt.mk 0 0 0) V2.out; obtain ⟨e0, e1, e2, h0, h1, h2⟩ := amt_open (x := Amt.mk 0 0 0) V3.out; clear hI' hC' hB' hK'; unfold Amt.v)
  all_goals
    have F2 := (blk_far (blk_far (blk_far (blk_set (blk_set (blk_set V2.out 0 (.int .i64 a)) 1 (.int .i64 b)) 2 (.int .i64 c)) (p := ⟨w.heap.size + 1, 0, none⟩) (by show w.heap.size ≠ w.heap.size + 1; omega) (.int .i64 a')) (p := ⟨w.heap.size + 1, 1, none⟩) (by show w.heap.size ≠ w.heap.size + 1; omega) (.int .i64 b')) (p := ⟨w.heap.size + 1, 2, none⟩) (by show w.heap.size ≠ w.heap.size + 1; omega) (.int .i64 c'))
    have F3 := (blk_set (blk_set (blk_set (blk_far (blk_far (blk_far V3.out (p := ⟨w.heap.size, 0, none⟩) (by show w.heap.size + 1 ≠ w.heap.size; omega) (.int .i64 a)) (p := ⟨w.heap.size, 1, none⟩) (by show w.heap.size + 1 ≠ w.heap.size; omega) (.int .i64 b)) (p := ⟨w.heap.size, 2, none⟩) (by show w.heap.size + 1 ≠ w.heap.size; omega) (.int .i64 c)) 0 (.int .i64 a')) 1 (.int .i64 b')) 2 (.int .i64 c'))
    have FL := (below_set (j := 2) (v := .int .i64 c') (below_set (j := 1) (v := .int .i64 b') (below_set (j := 0) (v := .int .i64 a') (below_set (j := 2) (v := .int .i64 c) (below_set (j := 1) (v := .int .i64 b) (below_set (j := 0) (v := .int .i64 a) VB.out (show w.heap.size ≤ w.heap.size by omega)) (show w.heap.size ≤ w.heap.size by omega)) (show w.heap.size ≤ w.heap.size by omega)) (show w.heap.size ≤ w.heap.size + 1 by omega)) (show w.heap.size ≤ w.heap.size + 1 by omega)) (show w.heap.size ≤ w.heap.size + 1 by omega))
    generalize ((((((we).setCell ⟨w.heap.size, 0, none⟩ (.int .i64 a)).setCell ⟨w.heap.size, 1, none⟩ (.int .i64 b)).setCell ⟨w.heap.size, 2, none⟩ (.int .i64 c)).setCell ⟨w.heap.size + 1, 0, none⟩ (.int .i64 a')).setCell ⟨w.heap.size + 1, 1, none⟩ (.int .i64 b')).setCell ⟨w.heap.size + 1, 2, none⟩ (.int .i64 c') = wz at F2 F3 FL ⊢
    obtain ⟨z0, z1, z2, _, _, _⟩ := amt_open (x := Amt.mk a b c) F2
    obtain ⟨y0, y1, y2, _, _, _⟩ := amt_open (x := Amt.mk a' b' c') F3
    go_wp2
    exact bodyPost_ret (v := .tuple #[.agg #[.int .i64 a, .int .i64 b, .int .i64 c], .agg #[.int .i64 a', .int .i64 b', .int .i64 c']]) (by simp [results, Try.results41, go_sem, z0, z1, z2, y0, y1, y2]) rfl ⟨⟨Amt.mk a b c, Amt.mk a' b' c', rfl⟩, FL⟩
end Go.Proofs.Ytbdegifmcppciaa.G

/- PFitPure -/
/-
  FnFitted: what the numbers say.
-/
namespace Go.Proofs.Ytbdegifmcppciaa.G
set_option linter.unusedVariables false
theorem fitStep_le (n e r : Int) : fitStep n e r ≤ n := by unfold fitStep; split <;> (try split) <;> omega
theorem fitStep_quo (n e r : Int) (h : 0 < e) : fitStep n e r ≤ r / e := by unfold fitStep; rw [if_pos h]; split <;> omega
theorem fitStep_or (n e r : Int) : fitStep n e r = n ∨ (0 < e ∧ fitStep n e r = r / e) := by
  unfold fitStep
  split
  · rename_i h
    split
    · exact .inr ⟨h, rfl⟩
    · exact .inl rfl
  · exact .inl rfl
def ovUp (y z : Amt) : Nat → Bool
  | 0 => false
  | k + 1 => ovUp y z k || decide (z.at k < y.at k)
theorem mul_fit {n e r : Int} (hn : 0 ≤ n) (he : 0 ≤ e) (hr : 0 ≤ r) (h : 0 < e → n ≤ r / e) : e * n ≤ r := by
  by_cases h0 : 0 < e
  · have := (Int.le_ediv_iff_mul_le h0).1 (h h0)
    rwa [Int.mul_comm] at this
  · obtain rfl : e = 0 := by omega
    rw [Int.zero_mul]; exact hr
theorem mul_over {e r : Int} (h : 0 < e) : r < e * (r / e + 1) := by
  have := Int.lt_ediv_add_one_mul_self r h
  rwa [Int.mul_comm] at this
theorem fitted_facts (x z : Amt) (hx : amtOk x = true) (hz : amtOk z = true) : ∃ (n : Int) (u v s : Amt) (more fine : Bool), fitsOf x z = n ∧ 0 ≤ n ∧ n ≤ 1000000 ∧ timesV x n = .tuple #[u.v, .bool true] ∧ timesV x (n + 1) = .tuple #[v.v, .bool more] ∧
    addV x z = .tuple #[s.v, .bool fine] ∧ addV z x = .tuple #[s.v, .bool fine] ∧ (fine = true → amtOk s = true) ∧ (∀ k, k < 3 → u.at k ≤ z.at k) ∧ (n = 1000000 ∨ more = false ∨ ovUp v z 3 = true) := by
  obtain ⟨a, b, c⟩ := x
  obtain ⟨p, q, r⟩ := z
  obtain ⟨⟨a1, a2⟩, ⟨b1, b2⟩, c1, c2⟩ := amtOk_iff.1 hx
  obtain ⟨⟨p1, p2⟩, ⟨q1, q2⟩, r1, r2⟩ := amtOk_iff.1 hz
  dsimp only at a1 a2 b1 b2 c1 c2 p1 p2 q1 q2 r1 r2
  have hf : fitsOf ⟨a, b, c⟩ ⟨p, q, r⟩ = fitStep (fitStep (fitStep 1000000 a p) b q) c r := by unfold fitsOf; rw [if_pos ⟨hx, hz⟩]
  have f1 := fitStep_bound (n := 1000000) (e := a) (r := p) (by omega) (by omega) a1 p1
  have f2 := fitStep_bound (e := b) (r := q) f1.1 f1.2 b1 q1
  have f3 := fitStep_bound (e := c) (r := r) f2.1 f2.2 c1 r1
  have g1 := fitStep_le 1000000 a p
  have g2 := fitStep_le (fitStep 1000000 a p) b q
  have g3 := fitStep_le (fitStep (fitStep 1000000 a p) b q) c r
  have i1 := fitStep_quo 1000000 a p
  have i2 := fitStep_quo (fitStep 1000000 a p) b q
  have i3 := fitStep_quo (fitStep (fitStep 1000000 a p) b q) c r
  have j1 := fitStep_or 1000000 a p
  have j2 := fitStep_or (fitStep 1000000 a p) b q
  have j3 := fitStep_or (fitStep (fitStep 1000000 a p) b q) c r
  generalize fitStep (fitStep (fitStep 1000000 a p) b q) c r = n at *
  generalize fitStep (fitStep 1000000 a p) b q = n2 at *
  generalize fitStep 1000000 a p = n1 at *
  have m1 : a * n ≤ p := mul_fit f3.1 a1 p1 (fun h => by have := i1 h; omega)
  have m2 : b * n ≤ q := mul_fit f3.1 b1 q1 (fun h => by have := i2 h; omega)
  have m3 : c * n ≤ r := mul_fit f3.1 c1 r1 (fun h => by have := i3 h; omega)
  have ht : timesV ⟨a, b, c⟩ n = .tuple #[(Amt.mk (a * n) (b * n) (c * n)).v, .bool true] := by
    unfold timesV
    rw [if_pos]
    refine ⟨hx, by simp only [inB, Bool.and_eq_true, decide_eq_true_iff]; omega, fun h => ⟨?_, ?_, ?_⟩⟩
    · exact (Int.le_ediv_iff_mul_le h).2 (by show a * n ≤ _; omega)
    · exact (Int.le_ediv_iff_mul_le h).2 (by show b * n ≤ _; omega)
    · exact (Int.le_ediv_iff_mul_le h).2 (by show c * n ≤ _; omega)
  obtain ⟨v, more, hv, hov⟩ : ∃ (v : Amt) (more : Bool), timesV ⟨a, b, c⟩ (n + 1) = .tuple #[v.v, .bool more] ∧ (more = true → v = ⟨a * (n + 1), b * (n + 1), c * (n + 1)⟩) := by
    unfold timesV
    split
    · exact ⟨_, true, rfl, fun _ => rfl⟩
    · exact ⟨_, false, rfl, fun h => by cases h⟩
  obtain ⟨s, fine, hs, hs', hfi⟩ : ∃ (s : Amt) (fine : Bool), addV ⟨a, b, c⟩ ⟨p, q, r⟩ = .tuple #[s.v, .bool fine] ∧ addV ⟨p, q, r⟩ ⟨a, b, c⟩ = .tuple #[s.v, .bool fine] ∧ (fine = true → amtOk s = true) := by
    unfold addV
    dsimp only
    rw [Int.add_comm p a, Int.add_comm q b, Int.add_comm r c]
    by_cases h : amtOk ⟨a + p, b + q, c + r⟩ = true
    · rw [if_pos ⟨hx, hz, h⟩, if_pos ⟨hz, hx, h⟩]
      exact ⟨_, true, rfl, rfl, fun _ => h⟩
    · rw [if_neg (fun h' => h h'.2.2), if_neg (fun h' => h h'.2.2)]
      exact ⟨_, false, rfl, rfl, fun h => by cases h⟩
  refine ⟨n, _, v, s, more, fine, hf, f3.1, f3.2, ht, hv, hs, hs', hfi, ?_, ?_⟩
  · intro k hk
    match k, hk with
    | 0, _ => exact m1
    | 1, _ => exact m2
    | 2, _ => exact m3
  · cases more with
    | false => exact .inr (.inl rfl)
    | true =>
      have hvv := hov rfl
      subst hvv
      have key : n = 1000000 ∨ (0 < a ∧ n = p / a) ∨ (0 < b ∧ n = q / b) ∨ (0 < c ∧ n = r / c) := by omega
      rcases key with h | ⟨h, e⟩ | ⟨h, e⟩ | ⟨h, e⟩
      · exact .inl h
      all_goals
        refine .inr (.inr ?_)
        simp only [ovUp, Amt.at, Bool.or_eq_true, decide_eq_true_iff]
      · have := mul_over (r := p) h
        rw [← e] at this
        omega
      · have := mul_over (r := q) h
        rw [← e] at this
        omega
      · have := mul_over (r := r) h
        rw [← e] at this
        omega
end Go.Proofs.Ytbdegifmcppciaa.G

/- PFitEq -/
/-
  Arrays of three whole numbers compared with themselves.
-/
namespace Go.Proofs.Ytbdegifmcppciaa.G
open Go.RowKit
theorem eqA3 (a b c : Int) (W : World) : (Op.equalIn 9999 24 (.agg #[.int .i64 a, .int .i64 b, .int .i64 c]) (.agg #[.int .i64 a, .int .i64 b, .int .i64 c])).run Try.prog W = .ok true W := by
  obtain ⟨i, hi⟩ : ∃ i, Try.prog.info? 3 = some i := Option.isSome_iff_exists.1 (by kernel_rfl)
  rw [run_equalIn_array W 9998 _ _ Try.underlying24 hi]
  rw [show List.range 3 = [0, 1, 2] from rfl, show Try.prog.cellsOf 3 = 1 by kernel_rfl]
  simp [Op.eqItems, go_sem]
end Go.Proofs.Ytbdegifmcppciaa.G

/- PFitLaw -/
/-
  The law FnFitted.
-/
namespace Go.Proofs.Ytbdegifmcppciaa.G
open Go.RowKit Go.Proofs.YtbdegifmcppciaaW.PrintWords Go.Proofs.YtbdegifmcppciaaW.PrintLast Go.Proofs.YtbdegifmcppciaaW.PrintMore
set_option linter.unusedVariables false
set_option linter.unusedSimpArgs false
def laws_FnFitted.f (l0 : List Int) : Option Bool := some true
theorem below_of {f : FuncId} {args : Array Value} {w : World} {v : Value} {o : Obj} (h : Calls Try.prog f args w fun e w' => e = .returned v ∧ w' = w.alloc o) : Calls Try.prog f args w fun e w' => e = .returned v ∧ Below w.heap.size w w' :=
  h.mono (fun e w' hh => ⟨hh.1, by rw [hh.2]; exact below_alloc (Below.refl _ _) o⟩)
theorem FnFitted_pure (l0 : List Int) (hw : l0.length ≤ 9223372036854775807 ∧ ∀ x ∈ l0, 0 ≤ x ∧ x ≤ 255) : laws_FnFitted.f l0 = some true := rfl
set_option maxHeartbeats 8000000 in
theorem laws_FnFitted.calls (A0 : Option Addr) (c0 : Nat) (l0 : List Int) (r : Bool) (w : World) (hr0 : Kd.C (Kd.int .u8) w A0 l0.length l0) (hc0 : l0.length ≤ c0) (h : laws_FnFitted.f l0 = some r) :
    Calls Try.prog 13 #[.slice A0 l0.length c0] w fun e w' => e = .returned (.bool r) ∧ Below w.heap.size w w' := by
  cases h
  by_cases cb : (l0.length : Int) > 1048576
  · have hbig : laws_big.f l0 = some true := by unfold laws_big.f; simp [cb]
    have HR := Lib.hid hr0
    have HG := Lib.hid hbig
    clear hr0 hbig cb
    go_enter Try.func13, Try.ntmps13
    go_wp2_with fail
    refine (laws_big.calls A0 c0 l0 true _ HR.out hc0 HG.out).mono ?_
    rintro e wa ⟨rfl, hD⟩
    have HD := Lib.hid hD
    clear hD
    go_wp2
    go_ret
    exact ⟨rfl, HD.out.below⟩
  have hbig : laws_big.f l0 = some false := by unfold laws_big.f; simp [cb]
  have hl : l0.length ≤ 1048576 := by omega
  have HR := Lib.hid hr0
  have HG := Lib.hid hbig
  clear hr0 hbig cb
  go_enter Try.func13, Try.ntmps13
  go_wp2_with fail
  refine (laws_big.calls A0 c0 l0 false _ HR.out hc0 HG.out).mono ?_
  rintro e wa ⟨rfl, hD⟩
  have HA := Lib.hid hD.below
  clear hD
  go_wp2_with fail
  refine (drawFits_calls A0 c0 l0 _ (Kd.C_below HR.out HA.out) hc0 hl).mono ?_
  rintro e wb ⟨x, z, rfl, hb⟩
  have HB := Lib.hid (below_trans HA.out hb)
  clear hb HA
  by_cases hx : amtOk x = true
  · by_cases hz : amtOk z = true
    · obtain ⟨n, u, v, s, more, fine, ef, n0, n1, et, ev, es, es', hfi, hin, hov⟩ := fitted_facts x z hx hz
      have CF := fun w => implFits_any x z w
      have CT := fun w => implTimes_any x n w
      have CV := fun w => implTimes_any x (n + 1) w
      have CS := fun w => implAddAmounts_any x z w
      have CS' := fun w => implAddAmounts_any z x w
      have CX := fun w => below_of (specAmountsOk_any x w)
      have CZ := fun w => below_of (specAmountsOk_any z w)
      have CO := fun w => below_of (implAmountsOk_any s w)
      rw [ef] at CF; rw [et] at CT; rw [ev] at CV; rw [es] at CS; rw [es'] at CS'; rw [hx] at CX; rw [hz] at CZ
      clear ef et ev es es' hx hz
      obtain ⟨xa, xb, xc⟩ := x
      obtain ⟨za, zb, zc⟩ := z
      obtain ⟨ua, ub, uc⟩ := u
      obtain ⟨va, vb, vc⟩ := v
      obtain ⟨sa, sb, sc⟩ := s
      unfold Amt.v at CF CT CV CS CS' CX CZ CO ⊢
      have CF := Lib.hid CF
      have CT := Lib.hid CT
      have CV := Lib.hid CV
      have CS := Lib.hid CS
      have CS' := Lib.hid CS'
      have CX := Lib.hid CX
      have CZ := Lib.hid CZ
      have CO := Lib.hid CO
      have hin := Lib.hid hin
      have hov := Lib.hid hov
      have hfi := Lib.hid hfi
      go_wp2_with fail
      have GX := Lib.hid (blk_alloc (heap_alloc_new wb (.cells #[.int .i64 xa, .int .i64 xb, .int .i64 xc] 28)) (.cells #[.int .i64 za, .int .i64 zb, .int .i64 zc] 28))
      have GZ := Lib.hid (heap_alloc_new (wb.alloc (.cells #[.int .i64 xa, .int .i64 xb, .int .i64 xc] 28)) (.cells #[.int .i64 za, .int .i64 zb, .int .i64 zc] 28))
      have h_ := GZ.out
      rw [World.size_alloc] at h_
      have GZ := Lib.hid h_
      clear h_
      have HB := Lib.hid (below_alloc (below_alloc HB.out (.cells #[.int .i64 xa, .int .i64 xb, .int .i64 xc] 28)) (.cells #[.int .i64 za, .int .i64 zb, .int .i64 zc] 28))
      refine (CF.out _).mono ?_
      rintro e w1 ⟨rfl, hb⟩
      have GX := Lib.hid (blk_below GX.out hb)
      have GZ := Lib.hid (blk_below GZ.out hb)
      have HB := Lib.hid (below_trans HB.out hb)
      clear hb
      obtain ⟨x0, x1, x2, _, _, _⟩ := amt_open (x := Amt.mk xa xb xc) GX.out
      have lX := blk_lt GX.out
      obtain ⟨z0, z1, z2, _, _, _⟩ := amt_open (x := Amt.mk za zb zc) GZ.out
      have lZ := blk_lt GZ.out
      go_wp2_with fail
      refine (CX.out _).mono ?_
      rintro e w2 ⟨rfl, hb⟩
      clear x0 x1 x2 lX
      clear z0 z1 z2 lZ
      have GX := Lib.hid (blk_below GX.out hb)
      have GZ := Lib.hid (blk_below GZ.out hb)
      have HB := Lib.hid (below_trans HB.out hb)
      clear hb
      obtain ⟨x0, x1, x2, _, _, _⟩ := amt_open (x := Amt.mk xa xb xc) GX.out
      have lX := blk_lt GX.out
      obtain ⟨z0, z1, z2, _, _, _⟩ := amt_open (x := Amt.mk za zb zc) GZ.out
      have lZ := blk_lt GZ.out
      go_wp2_with fail
      refine (CZ.out _).mono ?_
      rintro e w3 ⟨rfl, hb⟩
      clear x0 x1 x2 lX
      clear z0 z1 z2 lZ
      have GX := Lib.hid (blk_below GX.out hb)
      have GZ := Lib.hid (blk_below GZ.out hb)
      have HB := Lib.hid (below_trans HB.out hb)
      clear hb
      obtain ⟨x0, x1, x2, _, _, _⟩ := amt_open (x := Amt.mk xa xb xc) GX.out
      have lX := blk_lt GX.out
      obtain ⟨z0, z1, z2, _, _, _⟩ := amt_open (x := Amt.mk za zb zc) GZ.out
      have lZ := blk_lt GZ.out
      go_wp2_with fail
      refine (CT.out _).mono ?_
      rintro e w4 ⟨rfl, hb⟩
      clear x0 x1 x2 lX
      clear z0 z1 z2 lZ
      have GX := Lib.hid (blk_below GX.out hb)
      have GZ := Lib.hid (blk_below GZ.out hb)
      have HB := Lib.hid (below_trans HB.out hb)
      clear hb
      obtain ⟨x0, x1, x2, _, _, _⟩ := amt_open (x := Amt.mk xa xb xc) GX.out
      have lX := blk_lt GX.out
      obtain ⟨z0, z1, z2, _, _, _⟩ := amt_open (x := Amt.mk za zb zc) GZ.out
      have lZ := blk_lt GZ.out
      go_wp2_with fail
      have GX := Lib.hid (blk_alloc GX.out (.cells #[.int .i64 ua, .int .i64 ub, .int .i64 uc] 28))
      have GZ := Lib.hid (blk_alloc GZ.out (.cells #[.int .i64 ua, .int .i64 ub, .int .i64 uc] 28))
      have GU := Lib.hid (heap_alloc_new w4 (.cells #[.int .i64 ua, .int .i64 ub, .int .i64 uc] 28))
      have HB := Lib.hid (below_alloc HB.out (.cells #[.int .i64 ua, .int .i64 ub, .int .i64 uc] 28))
      refine (CV.out _).mono ?_
      rintro e w5 ⟨rfl, hb⟩
      clear x0 x1 x2 lX
      clear z0 z1 z2 lZ
      have GX := Lib.hid (blk_below GX.out hb)
      have GZ := Lib.hid (blk_below GZ.out hb)
      have GU := Lib.hid (blk_below GU.out hb)
      have HB := Lib.hid (below_trans HB.out hb)
      clear hb
      obtain ⟨x0, x1, x2, _, _, _⟩ := amt_open (x := Amt.mk xa xb xc) GX.out
      have lX := blk_lt GX.out
      obtain ⟨z0, z1, z2, _, _, _⟩ := amt_open (x := Amt.mk za zb zc) GZ.out
      have lZ := blk_lt GZ.out
      obtain ⟨u0, u1, u2, _, _, _⟩ := amt_open (x := Amt.mk ua ub uc) GU.out
      have lU := blk_lt GU.out
      go_wp2_with fail
      have GX := Lib.hid (blk_alloc GX.out (.cells #[.int .i64 va, .int .i64 vb, .int .i64 vc] 28))
      have GZ := Lib.hid (blk_alloc GZ.out (.cells #[.int .i64 va, .int .i64 vb, .int .i64 vc] 28))
      have GU := Lib.hid (blk_alloc GU.out (.cells #[.int .i64 va, .int .i64 vb, .int .i64 vc] 28))
      have GV := Lib.hid (heap_alloc_new w5 (.cells #[.int .i64 va, .int .i64 vb, .int .i64 vc] 28))
      have HB := Lib.hid (below_alloc HB.out (.cells #[.int .i64 va, .int .i64 vb, .int .i64 vc] 28))
      refine (CS.out _).mono ?_
      rintro e w6 ⟨rfl, hb⟩
      clear x0 x1 x2 lX
      clear z0 z1 z2 lZ
      clear u0 u1 u2 lU
      have GX := Lib.hid (blk_below GX.out hb)
      have GZ := Lib.hid (blk_below GZ.out hb)
      have GU := Lib.hid (blk_below GU.out hb)
      have GV := Lib.hid (blk_below GV.out hb)
      have HB := Lib.hid (below_trans HB.out hb)
      clear hb
      obtain ⟨x0, x1, x2, _, _, _⟩ := amt_open (x := Amt.mk xa xb xc) GX.out
      have lX := blk_lt GX.out
      obtain ⟨z0, z1, z2, _, _, _⟩ := amt_open (x := Amt.mk za zb zc) GZ.out
      have lZ := blk_lt GZ.out
      obtain ⟨u0, u1, u2, _, _, _⟩ := amt_open (x := Amt.mk ua ub uc) GU.out
      have lU := blk_lt GU.out
      obtain ⟨v0, v1, v2, _, _, _⟩ := amt_open (x := Amt.mk va vb vc) GV.out
      have lV := blk_lt GV.out
      go_wp2_with fail
      have GX := Lib.hid (blk_alloc GX.out (.cells #[.int .i64 sa, .int .i64 sb, .int .i64 sc] 28))
      have GZ := Lib.hid (blk_alloc GZ.out (.cells #[.int .i64 sa, .int .i64 sb, .int .i64 sc] 28))
      have GU := Lib.hid (blk_alloc GU.out (.cells #[.int .i64 sa, .int .i64 sb, .int .i64 sc] 28))
      have GV := Lib.hid (blk_alloc GV.out (.cells #[.int .i64 sa, .int .i64 sb, .int .i64 sc] 28))
      have GS := Lib.hid (heap_alloc_new w6 (.cells #[.int .i64 sa, .int .i64 sb, .int .i64 sc] 28))
      have HB := Lib.hid (below_alloc HB.out (.cells #[.int .i64 sa, .int .i64 sb, .int .i64 sc] 28))
      refine (CS'.out _).mono ?_
      rintro e w7 ⟨rfl, hb⟩
      clear x0 x1 x2 lX
      clear z0 z1 z2 lZ
      clear u0 u1 u2 lU
      clear v0 v1 v2 lV
      have GX := Lib.hid (blk_below GX.out hb)
      have GZ := Lib.hid (blk_below GZ.out hb)
      have GU := Lib.hid (blk_below GU.out hb)
      have GV := Lib.hid (blk_below GV.out hb)
      have GS := Lib.hid (blk_below GS.out hb)
      have HB := Lib.hid (below_trans HB.out hb)
      clear hb
      obtain ⟨x0, x1, x2, _, _, _⟩ := amt_open (x := Amt.mk xa xb xc) GX.out
      have lX := blk_lt GX.out
      obtain ⟨z0, z1, z2, _, _, _⟩ := amt_open (x := Amt.mk za zb zc) GZ.out
      have lZ := blk_lt GZ.out
      obtain ⟨u0, u1, u2, _, _, _⟩ := amt_open (x := Amt.mk ua ub uc) GU.out
      have lU := blk_lt GU.out
      obtain ⟨v0, v1, v2, _, _, _⟩ := amt_open (x := Amt.mk va vb vc) GV.out
      have lV := blk_lt GV.out
      obtain ⟨s0, s1, s2, _, _, _⟩ := amt_open (x := Amt.mk sa sb sc) GS.out
      have lS := blk_lt GS.out
      have eqS := fun W => eqA3 sa sb sc W
      cases fine with
      | true =>
        have CO2 := CO.out
        rw [hfi.out rfl] at CO2
        have CO := Lib.hid CO2
        clear CO2
        go_wp2_with fail
        have GX := Lib.hid (blk_alloc GX.out (.cells #[.int .i64 sa, .int .i64 sb, .int .i64 sc] 28))
        have GZ := Lib.hid (blk_alloc GZ.out (.cells #[.int .i64 sa, .int .i64 sb, .int .i64 sc] 28))
        have GU := Lib.hid (blk_alloc GU.out (.cells #[.int .i64 sa, .int .i64 sb, .int .i64 sc] 28))
        have GV := Lib.hid (blk_alloc GV.out (.cells #[.int .i64 sa, .int .i64 sb, .int .i64 sc] 28))
        have GS := Lib.hid (blk_alloc GS.out (.cells #[.int .i64 sa, .int .i64 sb, .int .i64 sc] 28))
        have GR := Lib.hid (heap_alloc_new w7 (.cells #[.int .i64 sa, .int .i64 sb, .int .i64 sc] 28))
        have HB := Lib.hid (below_alloc HB.out (.cells #[.int .i64 sa, .int .i64 sb, .int .i64 sc] 28))
        refine (CO.out _).mono ?_
        rintro e w8 ⟨rfl, hb⟩
        clear x0 x1 x2 lX
        clear z0 z1 z2 lZ
        clear u0 u1 u2 lU
        clear v0 v1 v2 lV
        clear s0 s1 s2 lS
        have GX := Lib.hid (blk_below GX.out hb)
        have GZ := Lib.hid (blk_below GZ.out hb)
        have GU := Lib.hid (blk_below GU.out hb)
        have GV := Lib.hid (blk_below GV.out hb)
        have GS := Lib.hid (blk_below GS.out hb)
        have GR := Lib.hid (blk_below GR.out hb)
        have HB := Lib.hid (below_trans HB.out hb)
        clear hb
        obtain ⟨x0, x1, x2, _, _, _⟩ := amt_open (x := Amt.mk xa xb xc) GX.out
        have lX := blk_lt GX.out
        obtain ⟨z0, z1, z2, _, _, _⟩ := amt_open (x := Amt.mk za zb zc) GZ.out
        have lZ := blk_lt GZ.out
        obtain ⟨u0, u1, u2, _, _, _⟩ := amt_open (x := Amt.mk ua ub uc) GU.out
        have lU := blk_lt GU.out
        obtain ⟨v0, v1, v2, _, _, _⟩ := amt_open (x := Amt.mk va vb vc) GV.out
        have lV := blk_lt GV.out
        obtain ⟨s0, s1, s2, _, _, _⟩ := amt_open (x := Amt.mk sa sb sc) GS.out
        have lS := blk_lt GS.out
        obtain ⟨r0, r1, r2, _, _, _⟩ := amt_open (x := Amt.mk sa sb sc) GR.out
        have lR := blk_lt GR.out
        go_wp2
        go_loopw [14, 15, 16] (fun vi vo vk wr => ∃ k : Nat, k ≤ 3 ∧ vi = .bool true ∧ vo = .bool (ovUp ⟨va, vb, vc⟩ ⟨za, zb, zc⟩ k) ∧ vk = .int .i64 k ∧ Hid (wr.heap[w4.heap.size]? = some (.cells (Amt.mk ua ub uc).cs 28 (0, 0)) ∧ wr.heap[w5.heap.size]? = some (.cells (Amt.mk va vb vc).cs 28 (0, 0)) ∧ wr.heap[wb.heap.size + 1]? = some (.cells (Amt.mk za zb zc).cs 28 (0, 0))) ∧ Hid (Below w.heap.size w wr)) (fun _ _ i _ => 3 - (intOf i).toNat)
        case atStart => exact ⟨0, by omega, rfl, rfl, rfl, ⟨GU.out, GV.out, GZ.out⟩, HB.out⟩
        case round =>
          obtain ⟨k, hk, rfl, rfl, rfl, HW, HB2⟩ := hrel
          by_cases hlt : k < 3
          · match k, hlt with
            | 0, hlt =>
              have cu : wr.cell? ⟨w4.heap.size, 0, none⟩ = some (.int .i64 ua) := amt_cell (x := Amt.mk ua ub uc) HW.out.1 0 (by omega)
              have cv : wr.cell? ⟨w5.heap.size, 0, none⟩ = some (.int .i64 va) := amt_cell (x := Amt.mk va vb vc) HW.out.2.1 0 (by omega)
              have cz : wr.cell? ⟨wb.heap.size + 1, 0, none⟩ = some (.int .i64 za) := amt_cell (x := Amt.mk za zb zc) HW.out.2.2 0 (by omega)
              have hle : decide (ua ≤ za) = true := decide_eq_true (hin.out 0 (by omega))
              obtain ⟨ob, hob⟩ : ∃ ob, ovUp ⟨va, vb, vc⟩ ⟨za, zb, zc⟩ 0 = ob := ⟨_, rfl⟩
              have HS : Hid (ovUp ⟨va, vb, vc⟩ ⟨za, zb, zc⟩ (0 + 1) = (ob || decide (za < va))) := by unfold Hid; rw [← hob]; rfl
              rw [hob]
              clear hob
              cases ob with
              | true =>
                go_wp2; go_quiet (fail); go_wp2; go_quiet (fail); go_wp2
                go_roundw
                case rel => exact ⟨0 + 1, by omega, rfl, by rw [HS.out]; rfl, by go_num, HW, (by first | exact HB2 | exact Lib.hid (pw_below_drewN HB2.out _))⟩
                case measure => simp [intOf]
              | false =>
                by_cases hc : za < va
                · have HS2 : Hid (ovUp ⟨va, vb, vc⟩ ⟨za, zb, zc⟩ (0 + 1) = true) := by unfold Hid; rw [HS.out]; simp [hc]
                  go_wp2; go_quiet (fail); go_wp2; go_quiet (fail); go_wp2
                  go_roundw
                  case rel => exact ⟨0 + 1, by omega, rfl, by rw [HS2.out], by go_num, HW, (by first | exact HB2 | exact Lib.hid (pw_below_drewN HB2.out _))⟩
                  case measure => simp [intOf]
                · have hcd : decide (za < va) = false := by simpa using hc
                  have HS2 : Hid (ovUp ⟨va, vb, vc⟩ ⟨za, zb, zc⟩ (0 + 1) = false) := by unfold Hid; rw [HS.out, hcd]; rfl
                  clear hc
                  go_wp2; go_quiet (fail); go_wp2; go_quiet (fail); go_wp2
                  go_roundw
                  case rel => exact ⟨0 + 1, by omega, rfl, by rw [HS2.out], by go_num, HW, (by first | exact HB2 | exact Lib.hid (pw_below_drewN HB2.out _))⟩
                  case measure => simp [intOf]
            | 1, hlt =>
              have cu : wr.cell? ⟨w4.heap.size, 1, none⟩ = some (.int .i64 ub) := amt_cell (x := Amt.mk ua ub uc) HW.out.1 1 (by omega)
              have cv : wr.cell? ⟨w5.heap.size, 1, none⟩ = some (.int .i64 vb) := amt_cell (x := Amt.mk va vb vc) HW.out.2.1 1 (by omega)
              have cz : wr.cell? ⟨wb.heap.size + 1, 1, none⟩ = some (.int .i64 zb) := amt_cell (x := Amt.mk za zb zc) HW.out.2.2 1 (by omega)
              have hle : decide (ub ≤ zb) = true := decide_eq_true (hin.out 1 (by omega))
              obtain ⟨ob, hob⟩ : ∃ ob, ovUp ⟨va, vb, vc⟩ ⟨za, zb, zc⟩ 1 = ob := ⟨_, rfl⟩
              have HS : Hid (ovUp ⟨va, vb, vc⟩ ⟨za, zb, zc⟩ (1 + 1) = (ob || decide (zb < vb))) := by unfold Hid; rw [← hob]; rfl
              rw [hob]
              clear hob
              cases ob with
              | true =>
                go_wp2; go_quiet (fail); go_wp2; go_quiet (fail); go_wp2
                go_roundw
                case rel => exact ⟨1 + 1, by omega, rfl, by rw [HS.out]; rfl, by go_num, HW, (by first | exact HB2 | exact Lib.hid (pw_below_drewN HB2.out _))⟩
                case measure => simp [intOf]
              | false =>
                by_cases hc : zb < vb
                · have HS2 : Hid (ovUp ⟨va, vb, vc⟩ ⟨za, zb, zc⟩ (1 + 1) = true) := by unfold Hid; rw [HS.out]; simp [hc]
                  go_wp2; go_quiet (fail); go_wp2; go_quiet (fail); go_wp2
                  go_roundw
                  case rel => exact ⟨1 + 1, by omega, rfl, by rw [HS2.out], by go_num, HW, (by first | exact HB2 | exact Lib.hid (pw_below_drewN HB2.out _))⟩
                  case measure => simp [intOf]
                · have hcd : decide (zb < vb) = false := by simpa using hc
                  have HS2 : Hid (ovUp ⟨va, vb, vc⟩ ⟨za, zb, zc⟩ (1 + 1) = false) := by unfold Hid; rw [HS.out, hcd]; rfl
                  clear hc
                  go_wp2; go_quiet (fail); go_wp2; go_quiet (fail); go_wp2
                  go_roundw
                  case rel => exact ⟨1 + 1, by omega, rfl, by rw [HS2.out], by go_num, HW, (by first | exact HB2 | exact Lib.hid (pw_below_drewN HB2.out _))⟩
                  case measure => simp [intOf]
            | 2, hlt =>
              have cu : wr.cell? ⟨w4.heap.size, 2, none⟩ = some (.int .i64 uc) := amt_cell (x := Amt.mk ua ub uc) HW.out.1 2 (by omega)
              have cv : wr.cell? ⟨w5.heap.size, 2, none⟩ = some (.int .i64 vc) := amt_cell (x := Amt.mk va vb vc) HW.out.2.1 2 (by omega)
              have cz : wr.cell? ⟨wb.heap.size + 1, 2, none⟩ = some (.int .i64 zc) := amt_cell (x := Amt.mk za zb zc) HW.out.2.2 2 (by omega)
              have hle : decide (uc ≤ zc) = true := decide_eq_true (hin.out 2 (by omega))
              obtain ⟨ob, hob⟩ : ∃ ob, ovUp ⟨va, vb, vc⟩ ⟨za, zb, zc⟩ 2 = ob := ⟨_, rfl⟩
              have HS : Hid (ovUp ⟨va, vb, vc⟩ ⟨za, zb, zc⟩ (2 + 1) = (ob || decide (zc < vc))) := by unfold Hid; rw [← hob]; rfl
              rw [hob]
              clear hob
              cases ob with
              | true =>
                go_wp2; go_quiet (fail); go_wp2; go_quiet (fail); go_wp2
                go_roundw
                case rel => exact ⟨2 + 1, by omega, rfl, by rw [HS.out]; rfl, by go_num, HW, (by first | exact HB2 | exact Lib.hid (pw_below_drewN HB2.out _))⟩
                case measure => simp [intOf]
              | false =>
                by_cases hc : zc < vc
                · have HS2 : Hid (ovUp ⟨va, vb, vc⟩ ⟨za, zb, zc⟩ (2 + 1) = true) := by unfold Hid; rw [HS.out]; simp [hc]
                  go_wp2; go_quiet (fail); go_wp2; go_quiet (fail); go_wp2
                  go_roundw
                  case rel => exact ⟨2 + 1, by omega, rfl, by rw [HS2.out], by go_num, HW, (by first | exact HB2 | exact Lib.hid (pw_below_drewN HB2.out _))⟩
                  case measure => simp [intOf]
                · have hcd : decide (zc < vc) = false := by simpa using hc
                  have HS2 : Hid (ovUp ⟨va, vb, vc⟩ ⟨za, zb, zc⟩ (2 + 1) = false) := by unfold Hid; rw [HS.out, hcd]; rfl
                  clear hc
                  go_wp2; go_quiet (fail); go_wp2; go_quiet (fail); go_wp2
                  go_roundw
                  case rel => exact ⟨2 + 1, by omega, rfl, by rw [HS2.out], by go_num, HW, (by first | exact HB2 | exact Lib.hid (pw_below_drewN HB2.out _))⟩
                  case measure => simp [intOf]
          · obtain rfl : k = 3 := by omega
            obtain ⟨ob, hob⟩ : ∃ ob, ovUp ⟨va, vb, vc⟩ ⟨za, zb, zc⟩ 3 = ob := ⟨_, rfl⟩
            have hov := hov.out
            rw [hob] at hov ⊢
            clear hob
            by_cases hn : n = 1000000
            · subst hn
              go_wp2
              go_ret
              exact ⟨rfl, (by first | exact HB2.out | exact pw_below_drewN HB2.out _)⟩
            · have hnb : (n == 1000000) = false := by simpa using hn
              cases more with
              | false =>
                go_wp2
                go_ret
                exact ⟨rfl, (by first | exact HB2.out | exact pw_below_drewN HB2.out _)⟩
              | true =>
                obtain rfl : ob = true := by rcases hov with h | h | h <;> first | exact absurd h hn | exact h | (cases h; done)
                go_wp2
                go_ret
                exact ⟨rfl, (by first | exact HB2.out | exact pw_below_drewN HB2.out _)⟩
      | false =>
        have GU := Lib.hid (blk_alloc GU.out (.cells #[.int .i64 sa, .int .i64 sb, .int .i64 sc] 28))
        have GV := Lib.hid (blk_alloc GV.out (.cells #[.int .i64 sa, .int .i64 sb, .int .i64 sc] 28))
        have GZ := Lib.hid (blk_alloc GZ.out (.cells #[.int .i64 sa, .int .i64 sb, .int .i64 sc] 28))
        have HB := Lib.hid (below_alloc HB.out (.cells #[.int .i64 sa, .int .i64 sb, .int .i64 sc] 28))
        go_wp2
        go_loopw [14, 15, 16] (fun vi vo vk wr => ∃ k : Nat, k ≤ 3 ∧ vi = .bool true ∧ vo = .bool (ovUp ⟨va, vb, vc⟩ ⟨za, zb, zc⟩ k) ∧ vk = .int .i64 k ∧ Hid (wr.heap[w4.heap.size]? = some (.cells (Amt.mk ua ub uc).cs 28 (0, 0)) ∧ wr.heap[w5.heap.size]? = some (.cells (Amt.mk va vb vc).cs 28 (0, 0)) ∧ wr.heap[wb.heap.size + 1]? = some (.cells (Amt.mk za zb zc).cs 28 (0, 0))) ∧ Hid (Below w.heap.size w wr)) (fun _ _ i _ => 3 - (intOf i).toNat)
        case atStart => exact ⟨0, by omega, rfl, rfl, rfl, ⟨GU.out, GV.out, GZ.out⟩, HB.out⟩
        case round =>
          obtain ⟨k, hk, rfl, rfl, rfl, HW, HB2⟩ := hrel
          by_cases hlt : k < 3
          · match k, hlt with
            | 0, hlt =>
              have cu : wr.cell? ⟨w4.heap.size, 0, none⟩ = some (.int .i64 ua) := amt_cell (x := Amt.mk ua ub uc) HW.out.1 0 (by omega)
              have cv : wr.cell? ⟨w5.heap.size, 0, none⟩ = some (.int .i64 va) := amt_cell (x := Amt.mk va vb vc) HW.out.2.1 0 (by omega)
              have cz : wr.cell? ⟨wb.heap.size + 1, 0, none⟩ = some (.int .i64 za) := amt_cell (x := Amt.mk za zb zc) HW.out.2.2 0 (by omega)
              have hle : decide (ua ≤ za) = true := decide_eq_true (hin.out 0 (by omega))
              obtain ⟨ob, hob⟩ : ∃ ob, ovUp ⟨va, vb, vc⟩ ⟨za, zb, zc⟩ 0 = ob := ⟨_, rfl⟩
              have HS : Hid (ovUp ⟨va, vb, vc⟩ ⟨za, zb, zc⟩ (0 + 1) = (ob || decide (za < va))) := by unfold Hid; rw [← hob]; rfl
              rw [hob]
              clear hob
              cases ob with
              | true =>
                go_wp2; go_quiet (fail); go_wp2; go_quiet (fail); go_wp2
                go_roundw
                case rel => exact ⟨0 + 1, by omega, rfl, by rw [HS.out]; rfl, by go_num, HW, (by first | exact HB2 | exact Lib.hid (pw_below_drewN HB2.out _))⟩
                case measure => simp [intOf]
              | false =>
                by_cases hc : za < va
                · have HS2 : Hid (ovUp ⟨va, vb, vc⟩ ⟨za, zb, zc⟩ (0 + 1) = true) := by unfold Hid; rw [HS.out]; simp [hc]
                  go_wp2; go_quiet (fail); go_wp2; go_quiet (fail); go_wp2
                  go_roundw
                  case rel => exact ⟨0 + 1, by omega, rfl, by rw [HS2.out], by go_num, HW, (by first | exact HB2 | exact Lib.hid (pw_below_drewN HB2.out _))⟩
                  case measure => simp [intOf]
                · have hcd : decide (za < va) = false := by simpa using hc
                  have HS2 : Hid (ovUp ⟨va, vb, vc⟩ ⟨za, zb, zc⟩ (0 + 1) = false) := by unfold Hid; rw [HS.out, hcd]; rfl
                  clear hc
                  go_wp2; go_quiet (fail); go_wp2; go_quiet (fail); go_wp2
                  go_roundw
                  case rel => exact ⟨0 + 1, by omega, rfl, by rw [HS2.out], by go_num, HW, (by first | exact HB2 | exact Lib.hid (pw_below_drewN HB2.out _))⟩
                  case measure => simp [intOf]
            | 1, hlt =>
              have cu : wr.cell? ⟨w4.heap.size, 1, none⟩ = some (.int .i64 ub) := amt_cell (x := Amt.mk ua ub uc) HW.out.1 1 (by omega)
              have cv : wr.cell? ⟨w5.heap.size, 1, none⟩ = some (.int .i64 vb) := amt_cell (x := Amt.mk va vb vc) HW.out.2.1 1 (by omega)
              have cz : wr.cell? ⟨wb.heap.size + 1, 1, none⟩ = some (.int .i64 zb) := amt_cell (x := Amt.mk za zb zc) HW.out.2.2 1 (by omega)
              have hle : decide (ub ≤ zb) = true := decide_eq_true (hin.out 1 (by omega))
              obtain ⟨ob, hob⟩ : ∃ ob, ovUp ⟨va, vb, vc⟩ ⟨za, zb, zc⟩ 1 = ob := ⟨_, rfl⟩
              have HS : Hid (ovUp ⟨va, vb, vc⟩ ⟨za, zb, zc⟩ (1 + 1) = (ob || decide (zb < vb))) := by unfold Hid; rw [← hob]; rfl
              rw [hob]
              clear hob
              cases ob with
              | true =>
                go_wp2; go_quiet (fail); go_wp2; go_quiet (fail); go_wp2
                go_roundw
                case rel => exact ⟨1 + 1, by omega, rfl, by rw [HS.out]; rfl, by go_num, HW, (by first | exact HB2 | exact Lib.hid (pw_below_drewN HB2.out _))⟩
                case measure => simp [intOf]
              | false =>
                by_cases hc : zb < vb
                · have HS2 : Hid (ovUp ⟨va, vb, vc⟩ ⟨za, zb, zc⟩ (1 + 1) = true) := by unfold Hid; rw [HS.out]; simp [hc]
                  go_wp2; go_quiet (fail); go_wp2; go_quiet (fail); go_wp2
                  go_roundw
                  case rel => exact ⟨1 + 1, by omega, rfl, by rw [HS2.out], by go_num, HW, (by first | exact HB2 | exact Lib.hid (pw_below_drewN HB2.out _))⟩
                  case measure => simp [intOf]
                · have hcd : decide (zb < vb) = false := by simpa using hc
                  have HS2 : Hid (ovUp ⟨va, vb, vc⟩ ⟨za, zb, zc⟩ (1 + 1) = false) := by unfold Hid; rw [HS.out, hcd]; rfl
                  clear hc
                  go_wp2; go_quiet (fail); go_wp2; go_quiet (fail); go_wp2
                  go_roundw
                  case rel => exact ⟨1 + 1, by omega, rfl, by rw [HS2.out], by go_num, HW, (by first | exact HB2 | exact Lib.hid (pw_below_drewN HB2.out _))⟩
                  case measure => simp [intOf]
            | 2, hlt =>
              have cu : wr.cell? ⟨w4.heap.size, 2, none⟩ = some (.int .i64 uc) := amt_cell (x := Amt.mk ua ub uc) HW.out.1 2 (by omega)
              have cv : wr.cell? ⟨w5.heap.size, 2, none⟩ = some (.int .i64 vc) := amt_cell (x := Amt.mk va vb vc) HW.out.2.1 2 (by omega)
              have cz : wr.cell? ⟨wb.heap.size + 1, 2, none⟩ = some (.int .i64 zc) := amt_cell (x := Amt.mk za zb zc) HW.out.2.2 2 (by omega)
              have hle : decide (uc ≤ zc) = true := decide_eq_true (hin.out 2 (by omega))
              obtain ⟨ob, hob⟩ : ∃ ob, ovUp ⟨va, vb, vc⟩ ⟨za, zb, zc⟩ 2 = ob := ⟨_, rfl⟩
              have HS : Hid (ovUp ⟨va, vb, vc⟩ ⟨za, zb, zc⟩ (2 + 1) = (ob || decide (zc < vc))) := by unfold Hid; rw [← hob]; rfl
              rw [hob]
              clear hob
              cases ob with
              | true =>
                go_wp2; go_quiet (fail); go_wp2; go_quiet (fail); go_wp2
                go_roundw
                case rel => exact ⟨2 + 1, by omega, rfl, by rw [HS.out]; rfl, by go_num, HW, (by first | exact HB2 | exact Lib.hid (pw_below_drewN HB2.out _))⟩
                case measure => simp [intOf]
              | false =>
                by_cases hc : zc < vc
                · have HS2 : Hid (ovUp ⟨va, vb, vc⟩ ⟨za, zb, zc⟩ (2 + 1) = true) := by unfold Hid; rw [HS.out]; simp [hc]
                  go_wp2; go_quiet (fail); go_wp2; go_quiet (fail); go_wp2
                  go_roundw
                  case rel => exact ⟨2 + 1, by omega, rfl, by rw [HS2.out], by go_num, HW, (by first | exact HB2 | exact Lib.hid (pw_below_drewN HB2.out _))⟩
                  case measure => simp [intOf]
                · have hcd : decide (zc < vc) = false := by simpa using hc
                  have HS2 : Hid (ovUp ⟨va, vb, vc⟩ ⟨za, zb, zc⟩ (2 + 1) = false) := by unfold Hid; rw [HS.out, hcd]; rfl
                  clear hc
                  go_wp2; go_quiet (fail); go_wp2; go_quiet (fail); go_wp2
                  go_roundw
                  case rel => exact ⟨2 + 1, by omega, rfl, by rw [HS2.out], by go_num, HW, (by first | exact HB2 | exact Lib.hid (pw_below_drewN HB2.out _))⟩
                  case measure => simp [intOf]
          · obtain rfl : k = 3 := by omega
            obtain ⟨ob, hob⟩ : ∃ ob, ovUp ⟨va, vb, vc⟩ ⟨za, zb, zc⟩ 3 = ob := ⟨_, rfl⟩
            have hov := hov.out
            rw [hob] at hov ⊢
            clear hob
            by_cases hn : n = 1000000
            · subst hn
              go_wp2
              go_ret
              exact ⟨rfl, (by first | exact HB2.out | exact pw_below_drewN HB2.out _)⟩
            · have hnb : (n == 1000000) = false := by simpa using hn
              cases more with
              | false =>
                go_wp2
                go_ret
                exact ⟨rfl, (by first | exact HB2.out | exact pw_below_drewN HB2.out _)⟩
              | true =>
                obtain rfl : ob = true := by rcases hov with h | h | h <;> first | exact absurd h hn | exact h | (cases h; done)
                go_wp2
                go_ret
                exact ⟨rfl, (by first | exact HB2.out | exact pw_below_drewN HB2.out _)⟩
    · skip
      have f0 : fitsOf x z = 0 := by unfold fitsOf; rw [if_neg (fun h_ => hz h_.2)]
      have CF := fun w => implFits_any x z w
      have CX := fun w => below_of (specAmountsOk_any x w)
      rw [f0] at CF
      have hz2 : amtOk z = false := by simpa using hz
      have CZ := fun w => below_of (specAmountsOk_any z w)
      rw [hz2] at CZ
      clear hz hz2
      have hx2 := hx
      rw [hx2] at CX
      clear hx f0
      obtain ⟨xa, xb, xc⟩ := x
      obtain ⟨za, zb, zc⟩ := z
      unfold Amt.v at CF CX CZ ⊢
      have CF := Lib.hid CF
      have CX := Lib.hid CX
      have CZ := Lib.hid CZ
      go_wp2_with fail
      have GX := Lib.hid (blk_alloc (heap_alloc_new wb (.cells #[.int .i64 xa, .int .i64 xb, .int .i64 xc] 28)) (.cells #[.int .i64 za, .int .i64 zb, .int .i64 zc] 28))
      have GZ := Lib.hid (heap_alloc_new (wb.alloc (.cells #[.int .i64 xa, .int .i64 xb, .int .i64 xc] 28)) (.cells #[.int .i64 za, .int .i64 zb, .int .i64 zc] 28))
      have h_ := GZ.out
      rw [World.size_alloc] at h_
      have GZ := Lib.hid h_
      clear h_
      have HB := Lib.hid (below_alloc (below_alloc HB.out (.cells #[.int .i64 xa, .int .i64 xb, .int .i64 xc] 28)) (.cells #[.int .i64 za, .int .i64 zb, .int .i64 zc] 28))
      refine (CF.out _).mono ?_
      rintro e w1 ⟨rfl, hb⟩
      have GX := Lib.hid (blk_below GX.out hb)
      have GZ := Lib.hid (blk_below GZ.out hb)
      have HB := Lib.hid (below_trans HB.out hb)
      clear hb
      obtain ⟨x0, x1, x2, _, _, _⟩ := amt_open (x := Amt.mk xa xb xc) GX.out
      have lX := blk_lt GX.out
      obtain ⟨z0, z1, z2, _, _, _⟩ := amt_open (x := Amt.mk za zb zc) GZ.out
      have lZ := blk_lt GZ.out
      go_wp2_with fail
      refine (CX.out _).mono ?_
      rintro e w2 ⟨rfl, hb⟩
      clear x0 x1 x2 lX
      clear z0 z1 z2 lZ
      have GX := Lib.hid (blk_below GX.out hb)
      have GZ := Lib.hid (blk_below GZ.out hb)
      have HB := Lib.hid (below_trans HB.out hb)
      clear hb
      obtain ⟨x0, x1, x2, _, _, _⟩ := amt_open (x := Amt.mk xa xb xc) GX.out
      have lX := blk_lt GX.out
      obtain ⟨z0, z1, z2, _, _, _⟩ := amt_open (x := Amt.mk za zb zc) GZ.out
      have lZ := blk_lt GZ.out
      go_wp2_with fail
      refine (CZ.out _).mono ?_
      rintro e w3 ⟨rfl, hb⟩
      clear x0 x1 x2 lX
      clear z0 z1 z2 lZ
      have GX := Lib.hid (blk_below GX.out hb)
      have GZ := Lib.hid (blk_below GZ.out hb)
      have HB := Lib.hid (below_trans HB.out hb)
      clear hb
      obtain ⟨x0, x1, x2, _, _, _⟩ := amt_open (x := Amt.mk xa xb xc) GX.out
      have lX := blk_lt GX.out
      obtain ⟨z0, z1, z2, _, _, _⟩ := amt_open (x := Amt.mk za zb zc) GZ.out
      have lZ := blk_lt GZ.out
      go_wp2
      go_region_with (first | (go_at_call 19; refine (implAmountsOk_any ⟨_, _, _⟩ _).mono ?_; rintro e w_ ⟨rfl, rfl⟩) | (go_at_call 17; refine (specAmountsOk_any ⟨_, _, _⟩ _).mono ?_; rintro e w_ ⟨rfl, rfl⟩))
      all_goals go_wp2
      all_goals go_ret
      all_goals exact ⟨by first | rfl | simp, by repeat (first | exact HB.out | apply below_alloc | apply pw_below_drewN | apply below_drew)⟩
  · skip
    have f0 : fitsOf x z = 0 := by unfold fitsOf; rw [if_neg (fun h_ => hx h_.1)]
    have CF := fun w => implFits_any x z w
    have CX := fun w => below_of (specAmountsOk_any x w)
    rw [f0] at CF
    have hx2 : amtOk x = false := by simpa using hx
    rw [hx2] at CX
    clear hx f0
    obtain ⟨xa, xb, xc⟩ := x
    obtain ⟨za, zb, zc⟩ := z
    unfold Amt.v at CF CX ⊢
    have CF := Lib.hid CF
    have CX := Lib.hid CX
    go_wp2_with fail
    have GX := Lib.hid (blk_alloc (heap_alloc_new wb (.cells #[.int .i64 xa, .int .i64 xb, .int .i64 xc] 28)) (.cells #[.int .i64 za, .int .i64 zb, .int .i64 zc] 28))
    have GZ := Lib.hid (heap_alloc_new (wb.alloc (.cells #[.int .i64 xa, .int .i64 xb, .int .i64 xc] 28)) (.cells #[.int .i64 za, .int .i64 zb, .int .i64 zc] 28))
    have h_ := GZ.out
    rw [World.size_alloc] at h_
    have GZ := Lib.hid h_
    clear h_
    have HB := Lib.hid (below_alloc (below_alloc HB.out (.cells #[.int .i64 xa, .int .i64 xb, .int .i64 xc] 28)) (.cells #[.int .i64 za, .int .i64 zb, .int .i64 zc] 28))
    refine (CF.out _).mono ?_
    rintro e w1 ⟨rfl, hb⟩
    have GX := Lib.hid (blk_below GX.out hb)
    have GZ := Lib.hid (blk_below GZ.out hb)
    have HB := Lib.hid (below_trans HB.out hb)
    clear hb
    obtain ⟨x0, x1, x2, _, _, _⟩ := amt_open (x := Amt.mk xa xb xc) GX.out
    have lX := blk_lt GX.out
    obtain ⟨z0, z1, z2, _, _, _⟩ := amt_open (x := Amt.mk za zb zc) GZ.out
    have lZ := blk_lt GZ.out
    go_wp2_with fail
    refine (CX.out _).mono ?_
    rintro e w2 ⟨rfl, hb⟩
    clear x0 x1 x2 lX
    clear z0 z1 z2 lZ
    have GX := Lib.hid (blk_below GX.out hb)
    have GZ := Lib.hid (blk_below GZ.out hb)
    have HB := Lib.hid (below_trans HB.out hb)
    clear hb
    obtain ⟨x0, x1, x2, _, _, _⟩ := amt_open (x := Amt.mk xa xb xc) GX.out
    have lX := blk_lt GX.out
    obtain ⟨z0, z1, z2, _, _, _⟩ := amt_open (x := Amt.mk za zb zc) GZ.out
    have lZ := blk_lt GZ.out
    go_wp2
    go_region_with (first | (go_at_call 19; refine (implAmountsOk_any ⟨_, _, _⟩ _).mono ?_; rintro e w_ ⟨rfl, rfl⟩) | (go_at_call 17; refine (specAmountsOk_any ⟨_, _, _⟩ _).mono ?_; rintro e w_ ⟨rfl, rfl⟩))
    all_goals go_wp2
    all_goals go_ret
    all_goals exact ⟨by first | rfl | simp, by repeat (first | exact HB.out | apply below_alloc | apply pw_below_drewN | apply below_drew)⟩
end Go.Proofs.Ytbdegifmcppciaa.G

/- GKOpen -/
/-
  An argument that can be read as data (the form's own reading) is of a kind 'Kd'; and what is known of it besides ('Wf').
-/
namespace Go.Proofs.Ytbdegifmcppciaa.G
open Go.RowKit Go.Proofs.YtbdegifmcppciaaW.PrintWords Go.Proofs.YtbdegifmcppciaaW.PrintLast Go.Proofs.YtbdegifmcppciaaW.PrintMore
set_option linter.unusedVariables false
section
variable {H : Type} {enc : TypeId × Value → H} {P : Program} {w : World} {base : Nat} {spare : Nat → Bool} {held : Bool}
def KOpens {α : Type} (enc : TypeId × Value → H) (P : Program) (w : World) (base : Nat) (spare : Nat → Bool) (held : Bool) (n : Nat) (t : TypeId) (k : Kd α) (Wf : α → Prop) : Prop :=
  ∀ cs x, DataW.trod enc P w base spare held n t cs = some x → ∃ a, Wf a ∧ k.K w a cs
theorem kopens_u8 {n : Nat} {t : TypeId} (ht : P.underlying t = some (.int .u8)) : KOpens enc P w base spare held n t (Kd.int .u8) (fun i => 0 ≤ i ∧ i ≤ 255) := by
  intro cs x h
  obtain ⟨i, rfl, _, hw⟩ := DataW.trod_int ht h
  have m1 : IntKind.u8.min = 0 := by decide
  have m2 : IntKind.u8.max = 255 := by decide
  simp only [Lit.wf, Bool.and_eq_true, decide_eq_true_eq, m1, m2] at hw
  exact ⟨i, hw, rfl⟩
theorem list_pick {α : Type} {P : Nat → α → Prop} : ∀ (n : Nat), (∀ i, i < n → ∃ a, P i a) → ∃ xs : List α, xs.length = n ∧ ∀ i (h : i < xs.length), P i xs[i]
  | 0, _ => ⟨[], rfl, by simp⟩
  | n + 1, h => by
    obtain ⟨xs, hl, hx⟩ := list_pick (P := P) n (fun i hi => h i (by omega))
    obtain ⟨a, ha⟩ := h n (by omega)
    refine ⟨xs ++ [a], by simp [hl], fun i hi => ?_⟩
    by_cases hin : i < xs.length
    · rw [List.getElem_append_left hin]; exact hx i hin
    · have : i = n := by simp at hi; omega
      subst this
      rw [List.getElem_append_right (by omega)]
      simpa using ha
theorem kopens_slice {α : Type} {n : Nat} {t e : TypeId} {k : Kd α} {Wf : α → Prop} (ht : P.underlying t = some (.slice e)) (hsz : P.cellsOf e = k.sz) (hpos : 0 < k.sz) (hby : ∀ xs : List α, True → True)
    (ho : ∀ m, m < n → KOpens enc P w base spare held m e k Wf) : KOpens enc P w base spare held n t (Kd.slice e k) (fun xs => xs.length ≤ 9223372036854775807 ∧ ∀ x ∈ xs, Wf x) := by
  intro cs x h
  rcases DataW.trod_slice ht h with ⟨rfl, _⟩ | ⟨a, len, cap, elems, rest, m, hn, rfl, _, hb, hl, hm, hlen, hel, _, _⟩
  · exact ⟨[], ⟨by simp, by simp⟩, none, 0, rfl, by simp, rfl, by simp, fun h => absurd h (by simp)⟩
  · unfold maxLen at hm
    have get : ∀ i, i < len → ∃ p : α, Wf p ∧ ∃ cs', w.cells? base (a.add (i * k.sz)) k.sz = some cs' ∧ k.K w p cs' := by
      intro i hi
      have h1 := hel i hi
      rw [hsz, List.getElem?_eq_getElem (by omega), Option.bind_eq_some_iff] at h1
      obtain ⟨cs', h1, h2⟩ := h1
      obtain ⟨p, hp, hK⟩ := ho m (by omega) _ _ h2
      exact ⟨p, hp, cs', h1, hK⟩
    obtain ⟨xs, hxl, hxs⟩ := list_pick len get
    refine ⟨xs, ⟨by omega, fun p hp => ?_⟩, some a, cap, by rw [hxl], by omega, rfl, by omega, fun _ => ⟨a, rfl, fun j p hj => ?_⟩⟩
    · obtain ⟨i, hi, rfl⟩ := List.getElem_of_mem hp
      exact (hxs i hi).1
    · obtain ⟨hjl, rfl⟩ := List.getElem?_eq_some_iff.1 hj
      obtain ⟨_, cs', hc, hK⟩ := hxs j hjl
      obtain ⟨_, hl', hat'⟩ := World.cells?_some hc
      refine ⟨cs', k.K_len hK, hK, fun i u hu => ?_⟩
      have hi := (List.getElem?_eq_some_iff.1 hu).1
      have h3 := hat' i (by rw [k.K_len hK] at hi; exact hi)
      rw [hu] at h3
      have ha : (a.add (j * k.sz)).add i = a.add (j * k.sz + i) := by
        unfold Addr.add
        by_cases h1 : j * k.sz = 0 <;> by_cases h2 : i = 0 <;> simp [h1, h2, Nat.add_assoc]
      rw [ha] at h3
      exact h3
end
end Go.Proofs.Ytbdegifmcppciaa.G

/- GKArgs -/
/-
  The arguments of the laws, opened: at this dump's type numbers.
-/
namespace Go.Proofs.Ytbdegifmcppciaa.G
open Go.RowKit Go.Proofs.YtbdegifmcppciaaW.PrintWords Go.Proofs.YtbdegifmcppciaaW.PrintLast Go.Proofs.YtbdegifmcppciaaW.PrintMore
set_option linter.unusedVariables false
section
variable {H : Type} {enc : TypeId × Value → H} {w : World} {base : Nat} {spare : Nat → Bool} {held : Bool} {v : Value} {d : DataW H} {p : List MemPlace} {r : Reach} {b0 : Nat}
set_option maxRecDepth 20000 in
/-- A slice of such elements. -/
theorem kopen_of {α : Type} {t e : TypeId} {k : Kd α} {Wf : α → Prop} (ht : Try.prog.underlying t = some (.slice e)) (hsz : Try.prog.cellsOf e = k.sz) (hpos : 0 < k.sz) (ho : ∀ m, KOpens enc Try.prog w base spare held m e k Wf)
    (hv : Value.okWide Try.prog w r b0 t v) (h : DataW.Trod enc Try.prog w base spare held t v d p) :
    ∃ (xs : List α) (A : Option Addr) (c : Nat), v = .slice A xs.length c ∧ (xs.length ≤ 9223372036854775807 ∧ ∀ x ∈ xs, Wf x) ∧ xs.length ≤ c ∧ Kd.C k w A xs.length xs := by
  obtain ⟨A, n, c, rfl⟩ := Go.WideShapes.okWide_slice ht hv
  obtain ⟨fuel, h⟩ := h
  obtain ⟨xs, hw, A', c', he, hl, hC⟩ := kopens_slice ht hsz hpos (fun _ _ => trivial) (fun m _ => ho m) _ _ h
  have he' : [Value.slice A n c] = [Value.slice A' xs.length c'] := he
  simp only [List.cons.injEq, and_true] at he'
  exact ⟨xs, A', c', he', hw, hl, hC⟩
set_option maxRecDepth 20000 in
theorem kopen_bytes (hv : Value.okWide Try.prog w r b0 55 v) (h : DataW.Trod enc Try.prog w base spare held 55 v d p) :
    ∃ (xs : List Int) (A : Option Addr) (c : Nat), v = .slice A xs.length c ∧ (xs.length ≤ 9223372036854775807 ∧ ∀ x ∈ xs, 0 ≤ x ∧ x ≤ 255) ∧ xs.length ≤ c ∧ Kd.C (Kd.int .u8) w A xs.length xs :=
  kopen_of Try.underlying55 (by kernel_rfl) (by decide) (fun m => kopens_u8 Try.underlying5) hv h
end
end Go.Proofs.Ytbdegifmcppciaa.G

/- G13 -/
/- laws.FnFitted: its contract is proved by hand. -/

/- RowFnFitted -/
/- The law 'FnFitted' holds for every input: it returns true, and each argument reads behind the call as it read before. No condition. -/
namespace Go.Proofs.Ytbdegifmcppciaa.fnFitted
open Go.ChangeShapes Go.WideShapes Go.ChangeAt Go.RowKit
set_option linter.unusedVariables false
theorem own : ownKnob Try.prog.godebug = none := by kernel_rfl
theorem laidOut : laidOutB Try.prog = true := by kernel_rfl
set_option maxRecDepth 100000 in
theorem lifted (os : Os) (started : os.Started) (H : Type) (enc : TypeId × Value → H) :
    ReturnsInHanded {} Try.checked os 13 .any (Rows.fnFittedSpec.pre6 enc Try.prog Try.f13 Rows.fnFittedRow.domain false) (Rows.fnFittedSpec.post enc Try.prog Try.f13 false true false false) := by
  refine returnsInHanded_of_change (C := Try.checked) own started (by kernel_rfl) Try.func13
    (ChangeSpec.witness6 (enc := enc) (C := Try.checked) false ⟨#[], #[.slice none 0 0], []⟩ 8 (by kernel_rfl) (by kernel_rfl) (by kernel_rfl) (by kernel_rfl)) ?_
  intro W base args ds gs before hval0 hW hcnd _
  have hval : ∀ (j : Nat) t v, Try.f13.params[j]? = some t → args[j]? = some v → Value.okWide Try.prog W .any base t v := hval0
  have hW' := hW
  obtain ⟨p, q, hA0, hV, rfl, hfz, hnd⟩ := hW
  have hA : DataW.TrodAll enc Try.prog W 0 (fun _ => true) true Try.f13.params.toList args.toList ds p := hA0
  rw [Try.params13] at hA hval
  obtain ⟨v0, vs0, d0, ds0, p0, q0, hargs0, rfl, rfl, h0, r0x⟩ := trodAll_cons hA
  obtain ⟨rfl, rfl, rfl⟩ := trodAll_nil r0x
  obtain rfl : args = #[v0] := by cases args; simp_all
  obtain ⟨rfl, rfl⟩ := trodVars_none hV
  have hlt := hW'.lt
  have hk0 := h0
  obtain ⟨x0, A0, c0, rfl, w0, l0, q0⟩ := G.kopen_bytes (hval 0 55 v0 rfl rfl) h0
  clear hA0 hval0
  have hk := G.FnFitted_pure x0 w0
  refine (G.laws_FnFitted.calls  A0 c0 x0 true W q0 l0 hk).mono fun e W' ⟨he, bel⟩ => ?_
  subst he
  exact ⟨_, rfl, _, _, _, [], _, [], hW', trodAll_mk1 (shut_bool Try.underlying4 _), (trodAll_cons_mk (Below.trod laidOut (by kernel_rfl) (of_decide_eq_true (by kernel_rfl)) hk0 bel (fun x hx => hlt x (by simp [hx]))) trodAll_mk0), rfl, bel.frame _, fun h => by cases h⟩
theorem over : Rows.fnFittedRow.holds Try.pinned (OpenSpec.ofChange Rows.fnFittedSpec) :=
  OpenClaim.holds_of_wide 13 Try.f13 rfl rfl rfl rfl rfl rfl rfl ⟨rfl, rfl, rfl, rfl, rfl⟩ rfl rfl rfl rfl rfl (by kernel_rfl) Try.func13 (by kernel_rfl)
    (of_decide_eq_true (by kernel_rfl)) (by unfold Func.isWrapper; first | (rw [if_pos (by decide +kernel)]; kernel_rfl) | (rw [if_neg (by decide +kernel)]; exact ⟨rfl, rfl⟩))
    (fun os started H enc _ => lifted os started H enc)
theorem proved : Rows.FnFittedSaid := over
#print axioms proved
end Go.Proofs.Ytbdegifmcppciaa.fnFitted
namespace Go.Proofs.Ytbdegifmcppciaa
theorem fnFitted_holds : Rows.FnFittedSaid := fnFitted.proved
end Go.Proofs.Ytbdegifmcppciaa
