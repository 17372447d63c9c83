import Derived.Test.YtpjpnppoejnafaaDoorMFnSelectorsCard6
import Derived.Test.YtpjpnppoejnafaaDoorMFnSelectorsCard7
import Derived.Test.YtpjpnppoejnafaaDoorMFnSelectorsCard8
import Derived.Test.YtpjpnppoejnafaaDoorMFnSelectorsCard9
import Derived.Test.YtpjpnppoejnafaaDoorMFnSelectorsCard1
import Derived.Test.YtpjpnppoejnafaaDoorMFnSelectorsCard5
import Derived.Test.YtpjpnppoejnafaaDoorShelf
/- PDrawTerm -/
/-
  Drawing terms and selectors.
-/
namespace Go.Proofs.YtpjpnppoejnafaaDoor.G
open Go.RowKit Go.Proofs.YtpjpnppoejnafaaDoorW.PrintWords Go.Proofs.YtpjpnppoejnafaaDoorW.PrintLast Go.Proofs.YtpjpnppoejnafaaDoorW.PrintMore
set_option linter.unusedVariables false
set_option linter.unusedSimpArgs false
def smT (n : Nat) (x : ITerm) : Prop := x.f1.size ≤ 21 ∧ x.f2.length ≤ n ∧ ∀ y ∈ x.f2, y.size ≤ 21
theorem smT_le {n m : Nat} (h : n ≤ m) {x : ITerm} (k : smT n x) : smT m x := ⟨k.1, by have := k.2.1; omega, k.2.2⟩
theorem wfITerms_sm {xs : List ITerm} (h : xs.length ≤ 1000) (hs : ∀ x ∈ xs, smT 1000 x) : wfITerms xs :=
  ⟨by omega, fun x hx => ⟨by have := (hs x hx).1; omega, by have := (hs x hx).2.1; omega, fun y hy => by have := (hs x hx).2.2 y hy; omega⟩⟩
theorem l2DrawTerm_l0 (cs : List Int) (p s : Int) (hc : Cur cs p) (kind : Int) (key : ByteArray) (hk : key.size ≤ 21) (ls : List ILab) (hls : ∀ x ∈ ls, smLab x) (hll : ls.length ≤ 100) : ∀ (d i : Nat) (vs : List ByteArray), i + d = ls.length → vs.length ≤ i → (∀ y ∈ vs, y.size ≤ 21) →
    Tot (fun k => spec_l2DrawTerm.l0 k ls i cs p s kind key vs) (fun r => smT 100 ⟨r.1, r.2.1, r.2.2.1⟩ ∧ Cur cs r.2.2.2.1)
  | 0, i, vs, hd, hl, hs => by
    refine Tot.step (fun k => by rw [spec_l2DrawTerm.l0]) (Tot.neg (by omega) (Tot.ite (fun _ => Tot.some ⟨⟨hk, ?_, ?_⟩, hc⟩) (fun _ => Tot.some ⟨⟨hk, ?_, hs⟩, hc⟩)))
    · simp
    · intro y hy; simp at hy; rw [hy]; decide
    · show vs.length ≤ 100; omega
  | d + 1, i, vs, hd, hl, hs => by
    have hi : i < ls.length := by omega
    refine Tot.step (fun k => by rw [spec_l2DrawTerm.l0]) (Tot.pos (by omega) (Tot.pos (by omega) (Tot.pos (by omega) ?_)))
    rw [wsucc hi (by omega), rdIL hi]
    refine l2DrawTerm_l0 cs p s hc kind key hk ls hls hll d (i + 1) _ (by omega) (by simp; omega) (fun y hy => ?_)
    rcases List.mem_append.1 hy with h | h
    · exact hs y h
    · rw [List.mem_singleton.1 h]; exact (hls _ (List.getElem_mem hi)).1
theorem l2DrawTerm_j0 (cs : List Int) (p s : Int) (hc : Cur cs p) (kind x13 : Int) (b : Bool) (key : ByteArray) (hk : key.size ≤ 21) :
    Tot (fun k => spec_l2DrawTerm.j0 k x13 b cs p s kind key) (fun r => smT 100 ⟨r.1, r.2.1, r.2.2.1⟩ ∧ Cur cs r.2.2.2.1) := by
  refine Tot.step (fun k => by rw [spec_l2DrawTerm.j0]) (Tot.ite (fun _ => Tot.bind (l1Name_tot cs p s hc) (fun a ha => Tot.some ⟨⟨hk, by simp, ?_⟩, ha.2⟩)) (fun _ => Tot.ite (fun _ => ?_) (fun _ => Tot.some ⟨⟨hk, by simp, by simp⟩, hc⟩)))
  · intro y hy; simp at hy; rw [hy]; have := ha.1; omega
  · exact Tot.bind (l1Draw_tot cs p s 5 (by omega) hc) (fun a ha => l2DrawTerm_l0 cs _ _ ha.2.2 kind key hk a.1 ha.2.1 ha.1 a.1.length 0 [] (by omega) (by simp) (by simp))
theorem l2DrawTerm_tot (cs : List Int) (p s : Int) (hc : Cur cs p) : Tot (fun k => spec_l2DrawTerm.f k cs p s) (fun r => smT 100 ⟨r.1, r.2.1, r.2.2.1⟩ ∧ Cur cs r.2.2.2.1) := by
  unfold spec_l2DrawTerm.f
  refine Tot.bind (l1Below_tot cs p s 5 hc) (fun a ha => Tot.bind (l1Name_tot cs _ _ ha.2) (fun b hb => Tot.ite (fun _ => ?_) (fun _ => ?_)))
  · exact l2DrawTerm_j0 cs _ _ hb.2 _ _ _ _ (by have := hb.1; omega)
  · exact l2DrawTerm_j0 cs _ _ hb.2 _ _ _ _ (by have := hb.1; omega)
theorem l2Draw_l0 (cs : List Int) : ∀ (d : Nat) (ys : List ITerm) (x6 p s : Int), x6.toNat ≤ d → ys.length + d ≤ 100 → (∀ x ∈ ys, smT 100 x) → x6 ≤ 1000 → Cur cs p →
    Tot (fun k => spec_l2Draw.l0 k ys x6 cs p s) (fun r => r.1.length ≤ ys.length + d ∧ (∀ x ∈ r.1, smT 100 x) ∧ Cur cs r.2.1)
  | 0, ys, x6, p, s, hd, hl, hs, h1, hc => by
    exact Tot.step (fun k => by rw [spec_l2Draw.l0]) (Tot.neg (by omega) (Tot.some ⟨by show ys.length ≤ _; omega, hs, hc⟩))
  | d + 1, ys, x6, p, s, hd, hl, hs, h1, hc => by
    refine Tot.step (fun k => by rw [spec_l2Draw.l0]) (Tot.ite (fun c => ?_) (fun c => Tot.some ⟨by show ys.length ≤ _; omega, hs, hc⟩))
    refine Tot.bind (l2DrawTerm_tot cs p s hc) (fun a ha => Tot.pos (by omega) ?_)
    rw [w64 (x := x6 - 1) (by omega) (by omega)]
    refine (l2Draw_l0 cs d _ (x6 - 1) _ _ (by omega) (by simp; omega) ?_ (by omega) ha.2).mono (fun r hr => ⟨by have := hr.1; simp at this; omega, hr.2⟩)
    intro x hx
    rcases List.mem_append.1 hx with h | h
    · exact hs x h
    · rw [List.mem_singleton.1 h]; exact ha.1
theorem l2Draw_tot (cs : List Int) (p s n : Int) (hn : n ≤ 20) (hc : Cur cs p) : Tot (fun k => spec_l2Draw.f k cs p s n) (fun r => r.1.length ≤ 20 ∧ (∀ x ∈ r.1, smT 100 x) ∧ Cur cs r.2.1) := by
  unfold spec_l2Draw.f
  refine Tot.bind (l1Below_tot cs p s n hc) (fun a ha => ?_)
  have hu := ha.1
  have : a.1 ≤ 20 ∧ 0 ≤ a.1 := by unfold Upto at hu; omega
  exact (l2Draw_l0 cs 20 [] a.1 _ _ (by omega) (by simp) (by simp) (by omega) ha.2).mono (fun r hr => ⟨by have := hr.1; simpa using this, hr.2⟩)
def AnyOk (cs : List Int) (r : List ITerm × Int × Int) : Prop := r.1.length ≤ 1000 ∧ (∀ x ∈ r.1, smT 1000 x) ∧ Cur cs r.2.1
theorem l2DrawAny_l0 (cs : List Int) : ∀ (d : Nat) (ys : List ITerm) (p s : Int), 20 ≤ ys.length + d → ys.length ≤ 100 → (∀ x ∈ ys, smT 1000 x) → Cur cs p → Tot (fun k => spec_l2DrawAny.l0 k ys cs p s) (AnyOk cs)
  | 0, ys, p, s, hd, hl, hs, hc => by
    refine Tot.step (fun k => by rw [spec_l2DrawAny.l0]) (Tot.bind (l1Below_tot cs p s 2 hc) (fun a ha => ?_))
    have hu := ha.1
    have : a.1 ≤ 2 ∧ 0 ≤ a.1 := by unfold Upto at hu; omega
    rw [w64 (by omega) (by omega)]
    exact Tot.neg (by omega) (Tot.some ⟨by show ys.length ≤ 1000; omega, hs, ha.2⟩)
  | d + 1, ys, p, s, hd, hl, hs, hc => by
    refine Tot.step (fun k => by rw [spec_l2DrawAny.l0]) (Tot.bind (l1Below_tot cs p s 2 hc) (fun a ha => ?_))
    have hu := ha.1
    have : a.1 ≤ 2 ∧ 0 ≤ a.1 := by unfold Upto at hu; omega
    rw [w64 (by omega) (by omega)]
    refine Tot.ite (fun c => Tot.pos (by omega) ?_) (fun c => Tot.some ⟨by show ys.length ≤ 1000; omega, hs, ha.2⟩)
    refine l2DrawAny_l0 cs d _ _ _ (by simp; omega) (by simp; omega) (fun x hx => ?_) ha.2
    rcases List.mem_append.1 hx with h | h
    · exact hs x h
    · rw [List.mem_singleton.1 h]; exact ⟨by decide, by simp, by simp⟩
theorem l2DrawAny_j1 (cs : List Int) (ys : List ITerm) (p s : Int) (hl : ys.length ≤ 100) (hs : ∀ x ∈ ys, smT 1000 x) (hc : Cur cs p) : Tot (fun k => spec_l2DrawAny.j1 k ys cs p s) (AnyOk cs) :=
  Tot.step (fun k => by rw [spec_l2DrawAny.j1]) (Tot.bind (l1Once_tot cs p s _ hc) (fun a ha => Tot.ite (fun _ => l2DrawAny_l0 cs 20 ys _ _ (by omega) hl hs ha) (fun _ => Tot.some ⟨by show ys.length ≤ 1000; omega, hs, ha⟩)))
theorem set_sm {ys : List ITerm} (hs : ∀ x ∈ ys, smT 1000 x) (i : Nat) {y : ITerm} (hy : smT 1000 y) : ∀ x ∈ ys.set i y, smT 1000 x := by
  intro x hx
  rcases List.mem_or_eq_of_mem_set hx with h | h
  · exact hs x h
  · rw [h]; exact hy
theorem l2DrawAny_j0 (cs : List Int) (ys : List ITerm) (b : Bool) (p s : Int) (hb : b = true → 0 < ys.length) (hl : ys.length ≤ 20) (hs : ∀ x ∈ ys, smT 100 x) (hc : Cur cs p) : Tot (fun k => spec_l2DrawAny.j0 k ys b cs p s) (AnyOk cs) := by
  have hs1 : ∀ x ∈ ys, smT 1000 x := fun x hx => smT_le (by omega) (hs x hx)
  refine Tot.step (fun k => by rw [spec_l2DrawAny.j0]) (Tot.ite (fun hbt => ?_) (fun _ => l2DrawAny_j1 cs ys p s (by omega) hs1 hc))
  have h0 := hb hbt
  refine Tot.bind (l1Below_tot cs p s _ hc) (fun a ha => Tot.bind (l1Below_tot cs _ _ 3 ha.2) (fun m hm => ?_))
  obtain ⟨a0, a1⟩ := ha.1.lt (by omega)
  obtain ⟨i, hi⟩ := Int.eq_ofNat_of_zero_le a0
  have hil : i < ys.length := by omega
  have hx := hs _ (List.getElem_mem hil)
  have e : rd_T59 ys a.1 = ys[i] := by rw [hi]; exact rdIT hil
  have ln : ∀ y, (ys.set (a.1 : Int).toNat y).length ≤ 100 := fun y => by rw [List.length_set]; omega
  refine Tot.ite (fun _ => ?_) (fun _ => Tot.ite (fun _ => ?_) (fun _ => Tot.ite (fun _ => ?_) (fun _ => l2DrawAny_j1 cs ys _ _ (by omega) hs1 hm.2)))
  · refine Tot.bind (l1Below_tot cs _ _ 7 hm.2) (fun q hq => Tot.pos a0 (Tot.pos a1 ?_))
    refine l2DrawAny_j1 cs _ _ _ (ln _) (set_sm hs1 _ ?_) hq.2
    rw [e]; exact ⟨hx.1, by have := hx.2.1; show ys[i].f2.length ≤ 1000; omega, hx.2.2⟩
  · refine Tot.bind (l1NameAny_tot cs _ _ hm.2) (fun q hq => Tot.pos a0 (Tot.pos a1 ?_))
    refine l2DrawAny_j1 cs _ _ _ (ln _) (set_sm hs1 _ ?_) hq.2
    rw [e]; exact ⟨hq.1, by have := hx.2.1; show ys[i].f2.length ≤ 1000; omega, hx.2.2⟩
  · simp only [Option.bind_some, e, List.nil_append, List.length_nil]
    have h2 := hx.2.1
    refine Tot.pos a0 (Tot.pos a1 (Tot.pos (by omega) (Tot.bind (l1NameAny_tot cs _ _ hm.2) (fun q hq => Tot.pos (by omega) ?_))))
    refine l2DrawAny_j1 cs _ _ _ (ln _) (set_sm hs1 _ ⟨hx.1, by simp; omega, fun y hy => ?_⟩) hq.2
    rcases List.mem_append.1 hy with h | h
    · exact hx.2.2 y h
    · rw [List.mem_singleton.1 h]; exact hq.1
theorem l2DrawAny_tot (cs : List Int) (p s : Int) (hc : Cur cs p) : Tot (fun k => spec_l2DrawAny.f k cs p s) (AnyOk cs) := by
  unfold spec_l2DrawAny.f
  refine Tot.bind (l2Draw_tot cs p s 5 (by omega) hc) (fun a ha => Tot.ite (fun c => Tot.bind (l1Once_tot cs _ _ _ ha.2.2) (fun b hb => ?_)) (fun c => ?_))
  · exact l2DrawAny_j0 cs a.1 _ _ _ (fun _ => by omega) ha.1 ha.2.1 hb
  · exact l2DrawAny_j0 cs a.1 _ _ _ (fun h => by cases h) ha.1 ha.2.1 ha.2.2
end Go.Proofs.YtpjpnppoejnafaaDoor.G

/- G27 -/
-- Laid by wip/g/gprint.py out of the translation, by the kit's print program. Lean checks it.
namespace Go.Proofs.YtpjpnppoejnafaaDoor.G
open Go.RowKit Go.Proofs.YtpjpnppoejnafaaDoorW.PrintWords Go.Proofs.YtpjpnppoejnafaaDoorW.PrintLast Go.Proofs.YtpjpnppoejnafaaDoorW.PrintMore
attribute [local go_sem] max2_int min2_int max_two min_two max_three min_three max_four min_four   -- for this text's walks alone
set_option linter.unusedVariables false
set_option linter.unusedSimpArgs false

/-! ### spec_DrawMatches: function 27 -/
def spec_DrawMatches.f (k : Nat) (l0 : List Int) : Option ((List (S59)) × (List (S42))) := (spec_l1New.f k l0).bind fun bt673 => ((spec_l2Draw.f k bt673.1 bt673.2.1 bt673.2.2 3).bind fun bt677 => ((spec_l1Once.f bt673.1 bt677.2.1 bt677.2.2 8).bind fun bt682 => (if bt682.1 = true then ((spec_l2DrawAny.f k bt673.1 bt682.2.1 bt682.2.2).bind fun bt685 => ((spec_l1DrawAny.f k bt673.1 bt685.2.1 bt685.2.2).bind fun bt690 => (some (bt685.1, bt690.1)))) else ((spec_l1DrawAny.f k bt673.1 bt682.2.1 bt682.2.2).bind fun bt695 => (some (bt677.1, bt695.1))))))
set_option maxHeartbeats 8000000 in
set_option maxRecDepth 100000 in
theorem spec_DrawMatches.calls (k : Nat) (A0 : Option Addr) (c0 : Nat) (l0 : List Int) (r1 : List (S59)) (r2 : List (S42)) (w : World) (hr0 : Kd.C (Kd.int .u8) w A0 l0.length l0) (hc0 : l0.length ≤ c0) (h : spec_DrawMatches.f k l0 = some (r1, r2)) :
  Calls Tryd.prog 27 #[.slice A0 l0.length c0] w fun e w' => ∃ v0_ v1_ : Value, e = .returned (.tuple #[v0_, v1_]) ∧ Kd.S k59 59 w' w.heap.size (fun _ => True) v0_ r1 ∧ Kd.R k42 42 w' w.heap.size (fun _ => True) v1_ r2 ∧ Below w.heap.size w w' := by
 have HR0 := Aside0.mk hr0
 have HC0 := Aside0.mk hc0
 clear hr0 hc0
 have HB := Aside0.mk (Below.refl w.heap.size w)
 unfold spec_DrawMatches.f at h; have H := h
 clear h
 replace H := Option.bind_eq_some_iff.mp H
 obtain ⟨⟨t673, t674, t675⟩, A20, H⟩ := H
 try dsimp only at H
 have A2 := Aside0.mk A20
 clear A20
 replace H := Option.bind_eq_some_iff.mp H
 obtain ⟨⟨t677, t680, t681⟩, A30, H⟩ := H
 try dsimp only at H
 have A3 := Aside0.mk A30
 clear A30
 replace H := Option.bind_eq_some_iff.mp H
 obtain ⟨⟨t682, t683, t684⟩, A40, H⟩ := H
 try dsimp only at H
 have A4 := Aside0.mk A40
 clear A40
 by_cases c5 : t682 = true
 ·subst c5
  have H1 : ((spec_l2DrawAny.f k t673 t683 t684).bind fun bt685 => ((spec_l1DrawAny.f k t673 bt685.2.1 bt685.2.2).bind fun bt690 => (some (bt685.1, bt690.1)))) = some (r1, r2) := by rw [if_pos rfl] at H; exact H
  clear H
  have H := H1
  clear H1
  replace H := Option.bind_eq_some_iff.mp H
  obtain ⟨⟨t685, t688, t689⟩, A60, H⟩ := H
  try dsimp only at H
  have A6 := Aside0.mk A60
  clear A60
  replace H := Option.bind_eq_some_iff.mp H
  obtain ⟨⟨t690, t693, t694⟩, A70, H⟩ := H
  try dsimp only at H
  have A7 := Aside0.mk A70
  clear A70
  simp only [Option.some.injEq, Prod.mk.injEq] at H
  obtain ⟨rfl, rfl⟩ := H
  go_enter Tryd.func27, Tryd.ntmps27
  go_wp2_with (first | ((with_reducible refine gate_callee (f := 46) rfl ?_); refine goesL_ (some 7) rfl rfl Tryd.func46 (by kernel_rfl) rfl #[.slice A0 l0.length c0] rfl (by (try simp only [List.map_toArray, List.map_cons, List.map_nil]); first | done | rfl | (simp only [List.length_drop, List.length_take]; rfl)) ?_; (with_reducible refine (spec_l1New.calls k _ _ l0 t673 t674 t675 w _ ?side1 ?side2 ?side3 A2.out).mono ?_); (case side1 => repeat (first | (with_reducible first | exact HB.out | apply below_alloc | apply pw_below_drewN | apply below_drew1) | exact HB.out)); (case side2 => exact HR0.out); (case side3 => exact HC0.out); rintro e w8 ⟨g676, rfl, hi, hb, hb2⟩; refine ⟨_, rfl, ?_⟩; have n0_ := Aside0.mk (hb); have n1_ := Aside0.mk (hi); clear HB; have HB := n0_; have HI676 := n1_; clear n0_ n1_; (try clear hb); (try clear hb2); (try clear hk); (try clear hi)) | ((with_reducible refine gate_callee (f := 66) rfl ?_); refine goesL_ (some 9) rfl rfl Tryd.func66 (by kernel_rfl) rfl #[.pointer (some ⟨g676, 0, none⟩), .int .i64 3] rfl (by (try simp only [List.map_toArray, List.map_cons, List.map_nil]); first | done | rfl | (simp only [List.length_drop, List.length_take]; rfl)) ?_; (with_reducible refine (spec_l2Draw.calls k g676 t673 t674 t675 3 t677 t680 t681 w _ ?side1 ?side2 A3.out).mono ?_); (case side1 => repeat (first | (with_reducible first | exact HI676.out | apply IsS93.alloc | apply IsS93.drewN | apply IsS93.drew | apply IsS93.set_1 | apply IsS93.set_2) | exact HI676.out)); (case side2 => repeat (first | (with_reducible first | exact HB.out | apply below_alloc | apply pw_below_drewN | apply below_drew1 | refine below_set ?_ (IsS93.ge HI676.out)) | exact HB.out)); rintro e w9 ⟨v678, rfl, ho0, hi, hb, hk⟩; refine ⟨_, rfl, ?_⟩; have n0_ := Aside0.mk (Kd.S_lower ho0 (below_size (by repeat (first | (with_reducible first | exact HB.out | apply below_alloc | apply pw_below_drewN | apply below_drew1 | refine below_set ?_ (IsS93.ge HI676.out)) | exact HB.out)))); have n1_ := Aside0.mk (hb); have n2_ := Aside0.mk (hi); clear HB; clear HI676; have HO679 := n0_; have HB := n1_; have HI676 := n2_; clear n0_ n1_ n2_; (try clear hb); (try clear hb2); (try clear hk); (try clear hi); (try clear ho0)) | ((with_reducible refine gate_callee (f := 61) rfl ?_); refine goesL_ (some 11) rfl rfl Tryd.func61 (by kernel_rfl) rfl #[.pointer (some ⟨g676, 0, none⟩), .int .i64 8] rfl (by (try simp only [List.map_toArray, List.map_cons, List.map_nil]); first | done | rfl | (simp only [List.length_drop, List.length_take]; rfl)) ?_; (with_reducible refine (spec_l1Once.calls g676 t673 t680 t681 8 true t683 t684 w _ ?side1 ?side2 A4.out).mono ?_); (case side1 => repeat (first | (with_reducible first | exact HI676.out | apply IsS93.alloc | apply IsS93.drewN | apply IsS93.drew | apply IsS93.set_1 | apply IsS93.set_2) | exact HI676.out)); (case side2 => repeat (first | (with_reducible first | exact HB.out | apply below_alloc | apply pw_below_drewN | apply below_drew1 | refine below_set ?_ (IsS93.ge HI676.out)) | exact HB.out)); rintro e w10 ⟨rfl, hi, hb, hk⟩; refine ⟨_, rfl, ?_⟩; have n0_ := Aside0.mk (Kd.S_mono (Kd.S_keep (IsS93.apartS (show IsS93 w _ g676 t673 t680 t681 from by repeat (first | (with_reducible first | exact HI676.out | apply IsS93.alloc | apply IsS93.drewN | apply IsS93.drew | apply IsS93.set_1 | apply IsS93.set_2) | exact HI676.out)) (by (with_reducible repeat (first | apply Kd.S_alloc | apply Kd.S_drewN | apply Kd.S_drew)); exact HO679.out) (by decide)) hk (fun _ h => h.2)) (fun _ h => h.1)); have n1_ := Aside0.mk (hb); have n2_ := Aside0.mk (hi); clear HO679; clear HB; clear HI676; have HO679 := n0_; have HB := n1_; have HI676 := n2_; clear n0_ n1_ n2_; (try clear hb); (try clear hb2); (try clear hk); (try clear hi)) | ((with_reducible refine gate_callee (f := 65) rfl ?_); refine goesL_ (some 13) rfl rfl Tryd.func65 (by kernel_rfl) rfl #[.pointer (some ⟨g676, 0, none⟩)] rfl (by (try simp only [List.map_toArray, List.map_cons, List.map_nil]); first | done | rfl | (simp only [List.length_drop, List.length_take]; rfl)) ?_; (with_reducible refine (spec_l2DrawAny.calls k g676 t673 t683 t684 t685 t688 t689 w _ ?side1 ?side2 A6.out).mono ?_); (case side1 => repeat (first | (with_reducible first | exact HI676.out | apply IsS93.alloc | apply IsS93.drewN | apply IsS93.drew | apply IsS93.set_1 | apply IsS93.set_2) | exact HI676.out)); (case side2 => repeat (first | (with_reducible first | exact HB.out | apply below_alloc | apply pw_below_drewN | apply below_drew1 | refine below_set ?_ (IsS93.ge HI676.out)) | exact HB.out)); rintro e w11 ⟨v686, rfl, ho0, hi, hb, hk⟩; refine ⟨_, rfl, ?_⟩; have n0_ := Aside0.mk (Kd.S_mono (Kd.S_told (Kd.S_oldK (IsS93.apartS (show IsS93 w _ g676 t673 t683 t684 from by repeat (first | (with_reducible first | exact HI676.out | apply IsS93.alloc | apply IsS93.drewN | apply IsS93.drew | apply IsS93.set_1 | apply IsS93.set_2) | exact HI676.out)) (by (with_reducible repeat (first | apply Kd.S_alloc | apply Kd.S_drewN | apply Kd.S_drew)); exact HO679.out) (by decide)) hk) (Kd.S_base ho0)) (fun _ h_ => h_.1)); have n1_ := Aside0.mk (Kd.S_lower (Kd.S_new' ho0 (Kd.S_lt (by (with_reducible repeat (first | apply Kd.S_alloc | apply Kd.S_drewN | apply Kd.S_drew)); exact HO679.out))) (below_size (by repeat (first | (with_reducible first | exact HB.out | apply below_alloc | apply pw_below_drewN | apply below_drew1 | refine below_set ?_ (IsS93.ge HI676.out)) | exact HB.out)))); have n2_ := Aside0.mk (hb); have n3_ := Aside0.mk (hi); clear HO679; clear HB; clear HI676; have HO679 := n0_; have HO687 := n1_; have HB := n2_; have HI676 := n3_; clear n0_ n1_ n2_ n3_; (try clear hb); (try clear hb2); (try clear hk); (try clear hi); (try clear ho0)) | ((with_reducible refine gate_callee (f := 47) rfl ?_); refine goesL_ (some 16) rfl rfl Tryd.func47 (by kernel_rfl) rfl #[.pointer (some ⟨g676, 0, none⟩)] rfl (by (try simp only [List.map_toArray, List.map_cons, List.map_nil]); first | done | rfl | (simp only [List.length_drop, List.length_take]; rfl)) ?_; (with_reducible refine (spec_l1DrawAny.calls k g676 t673 t688 t689 t690 t693 t694 w _ ?side1 ?side2 A7.out).mono ?_); (case side1 => repeat (first | (with_reducible first | exact HI676.out | apply IsS93.alloc | apply IsS93.drewN | apply IsS93.drew | apply IsS93.set_1 | apply IsS93.set_2) | exact HI676.out)); (case side2 => repeat (first | (with_reducible first | exact HB.out | apply below_alloc | apply pw_below_drewN | apply below_drew1 | refine below_set ?_ (IsS93.ge HI676.out)) | exact HB.out)); rintro e w12 ⟨v691, rfl, ho0, hi, hb, hk⟩; refine ⟨_, rfl, ?_⟩; have n0_ := Aside0.mk (Kd.S_mono (Kd.S_keep (IsS93.apartS (show IsS93 w _ g676 t673 t688 t689 from by repeat (first | (with_reducible first | exact HI676.out | apply IsS93.alloc | apply IsS93.drewN | apply IsS93.drew | apply IsS93.set_1 | apply IsS93.set_2) | exact HI676.out)) (by (with_reducible repeat (first | apply Kd.S_alloc | apply Kd.S_drewN | apply Kd.S_drew)); exact HO679.out) (by decide)) hk (fun _ h => h.2)) (fun _ h => h.1)); have n1_ := Aside0.mk (Kd.S_mono (Kd.S_keep (IsS93.apartS (show IsS93 w _ g676 t673 t688 t689 from by repeat (first | (with_reducible first | exact HI676.out | apply IsS93.alloc | apply IsS93.drewN | apply IsS93.drew | apply IsS93.set_1 | apply IsS93.set_2) | exact HI676.out)) (by (with_reducible repeat (first | apply Kd.S_alloc | apply Kd.S_drewN | apply Kd.S_drew)); exact HO687.out) (by decide)) hk (fun _ h => h.2)) (fun _ h => h.1)); have n2_ := Aside0.mk (Kd.R_lower ho0 (below_size (by repeat (first | (with_reducible first | exact HB.out | apply below_alloc | apply pw_below_drewN | apply below_drew1 | refine below_set ?_ (IsS93.ge HI676.out)) | exact HB.out)))); have n3_ := Aside0.mk (hb); have n4_ := Aside0.mk (hi); clear HO679; clear HO687; clear HB; clear HI676; have HO679 := n0_; have HO687 := n1_; have HO692 := n2_; have HB := n3_; have HI676 := n4_; clear n0_ n1_ n2_ n3_ n4_; (try clear hb); (try clear hb2); (try clear hk); (try clear hi); (try clear ho0)))
  go_ret2
  exact ⟨_, _, by first | rfl | (simp [errW_none, errW_some] <;> rfl) | (simp [*, errW_none, errW_some] <;> rfl), by (with_reducible repeat (first | apply Kd.S_alloc | apply Kd.S_drewN | apply Kd.S_drew)); exact Kd.S_mono HO687.out (fun _ hk => trivial), by (with_reducible repeat (first | apply Kd.R_alloc | apply Kd.R_drewN | apply Kd.R_drew)); exact HO692.out, by repeat (first | (with_reducible first | exact HB.out | apply below_alloc | apply pw_below_drewN | apply below_drew1 | refine below_set ?_ (IsS93.ge HI676.out)) | exact HB.out)⟩
 ·replace c5 := Bool.eq_false_iff.mpr c5
  subst c5
  have H1 : ((spec_l1DrawAny.f k t673 t683 t684).bind fun bt695 => (some (t677, bt695.1))) = some (r1, r2) := by rw [if_neg (show ¬ (false = true) by decide)] at H; exact H
  clear H
  have H := H1
  clear H1
  replace H := Option.bind_eq_some_iff.mp H
  obtain ⟨⟨t695, t698, t699⟩, A130, H⟩ := H
  try dsimp only at H
  have A13 := Aside0.mk A130
  clear A130
  simp only [Option.some.injEq, Prod.mk.injEq] at H
  obtain ⟨rfl, rfl⟩ := H
  go_enter Tryd.func27, Tryd.ntmps27
  go_wp2_with (first | ((with_reducible refine gate_callee (f := 46) rfl ?_); refine goesL_ (some 7) rfl rfl Tryd.func46 (by kernel_rfl) rfl #[.slice A0 l0.length c0] rfl (by (try simp only [List.map_toArray, List.map_cons, List.map_nil]); first | done | rfl | (simp only [List.length_drop, List.length_take]; rfl)) ?_; (with_reducible refine (spec_l1New.calls k _ _ l0 t673 t674 t675 w _ ?side1 ?side2 ?side3 A2.out).mono ?_); (case side1 => repeat (first | (with_reducible first | exact HB.out | apply below_alloc | apply pw_below_drewN | apply below_drew1) | exact HB.out)); (case side2 => exact HR0.out); (case side3 => exact HC0.out); rintro e w14 ⟨g676, rfl, hi, hb, hb2⟩; refine ⟨_, rfl, ?_⟩; have n0_ := Aside0.mk (hb); have n1_ := Aside0.mk (hi); clear HB; have HB := n0_; have HI676 := n1_; clear n0_ n1_; (try clear hb); (try clear hb2); (try clear hk); (try clear hi)) | ((with_reducible refine gate_callee (f := 66) rfl ?_); refine goesL_ (some 9) rfl rfl Tryd.func66 (by kernel_rfl) rfl #[.pointer (some ⟨g676, 0, none⟩), .int .i64 3] rfl (by (try simp only [List.map_toArray, List.map_cons, List.map_nil]); first | done | rfl | (simp only [List.length_drop, List.length_take]; rfl)) ?_; (with_reducible refine (spec_l2Draw.calls k g676 t673 t674 t675 3 t677 t680 t681 w _ ?side1 ?side2 A3.out).mono ?_); (case side1 => repeat (first | (with_reducible first | exact HI676.out | apply IsS93.alloc | apply IsS93.drewN | apply IsS93.drew | apply IsS93.set_1 | apply IsS93.set_2) | exact HI676.out)); (case side2 => repeat (first | (with_reducible first | exact HB.out | apply below_alloc | apply pw_below_drewN | apply below_drew1 | refine below_set ?_ (IsS93.ge HI676.out)) | exact HB.out)); rintro e w15 ⟨v678, rfl, ho0, hi, hb, hk⟩; refine ⟨_, rfl, ?_⟩; have n0_ := Aside0.mk (Kd.S_lower ho0 (below_size (by repeat (first | (with_reducible first | exact HB.out | apply below_alloc | apply pw_below_drewN | apply below_drew1 | refine below_set ?_ (IsS93.ge HI676.out)) | exact HB.out)))); have n1_ := Aside0.mk (hb); have n2_ := Aside0.mk (hi); clear HB; clear HI676; have HO679 := n0_; have HB := n1_; have HI676 := n2_; clear n0_ n1_ n2_; (try clear hb); (try clear hb2); (try clear hk); (try clear hi); (try clear ho0)) | ((with_reducible refine gate_callee (f := 61) rfl ?_); refine goesL_ (some 11) rfl rfl Tryd.func61 (by kernel_rfl) rfl #[.pointer (some ⟨g676, 0, none⟩), .int .i64 8] rfl (by (try simp only [List.map_toArray, List.map_cons, List.map_nil]); first | done | rfl | (simp only [List.length_drop, List.length_take]; rfl)) ?_; (with_reducible refine (spec_l1Once.calls g676 t673 t680 t681 8 false t683 t684 w _ ?side1 ?side2 A4.out).mono ?_); (case side1 => repeat (first | (with_reducible first | exact HI676.out | apply IsS93.alloc | apply IsS93.drewN | apply IsS93.drew | apply IsS93.set_1 | apply IsS93.set_2) | exact HI676.out)); (case side2 => repeat (first | (with_reducible first | exact HB.out | apply below_alloc | apply pw_below_drewN | apply below_drew1 | refine below_set ?_ (IsS93.ge HI676.out)) | exact HB.out)); rintro e w16 ⟨rfl, hi, hb, hk⟩; refine ⟨_, rfl, ?_⟩; have n0_ := Aside0.mk (Kd.S_mono (Kd.S_keep (IsS93.apartS (show IsS93 w _ g676 t673 t680 t681 from by repeat (first | (with_reducible first | exact HI676.out | apply IsS93.alloc | apply IsS93.drewN | apply IsS93.drew | apply IsS93.set_1 | apply IsS93.set_2) | exact HI676.out)) (by (with_reducible repeat (first | apply Kd.S_alloc | apply Kd.S_drewN | apply Kd.S_drew)); exact HO679.out) (by decide)) hk (fun _ h => h.2)) (fun _ h => h.1)); have n1_ := Aside0.mk (hb); have n2_ := Aside0.mk (hi); clear HO679; clear HB; clear HI676; have HO679 := n0_; have HB := n1_; have HI676 := n2_; clear n0_ n1_ n2_; (try clear hb); (try clear hb2); (try clear hk); (try clear hi)) | ((with_reducible refine gate_callee (f := 47) rfl ?_); refine goesL_ (some 16) rfl rfl Tryd.func47 (by kernel_rfl) rfl #[.pointer (some ⟨g676, 0, none⟩)] rfl (by (try simp only [List.map_toArray, List.map_cons, List.map_nil]); first | done | rfl | (simp only [List.length_drop, List.length_take]; rfl)) ?_; (with_reducible refine (spec_l1DrawAny.calls k g676 t673 t683 t684 t695 t698 t699 w _ ?side1 ?side2 A13.out).mono ?_); (case side1 => repeat (first | (with_reducible first | exact HI676.out | apply IsS93.alloc | apply IsS93.drewN | apply IsS93.drew | apply IsS93.set_1 | apply IsS93.set_2) | exact HI676.out)); (case side2 => repeat (first | (with_reducible first | exact HB.out | apply below_alloc | apply pw_below_drewN | apply below_drew1 | refine below_set ?_ (IsS93.ge HI676.out)) | exact HB.out)); rintro e w17 ⟨v696, rfl, ho0, hi, hb, hk⟩; refine ⟨_, rfl, ?_⟩; have n0_ := Aside0.mk (Kd.S_mono (Kd.S_keep (IsS93.apartS (show IsS93 w _ g676 t673 t683 t684 from by repeat (first | (with_reducible first | exact HI676.out | apply IsS93.alloc | apply IsS93.drewN | apply IsS93.drew | apply IsS93.set_1 | apply IsS93.set_2) | exact HI676.out)) (by (with_reducible repeat (first | apply Kd.S_alloc | apply Kd.S_drewN | apply Kd.S_drew)); exact HO679.out) (by decide)) hk (fun _ h => h.2)) (fun _ h => h.1)); have n1_ := Aside0.mk (Kd.R_lower ho0 (below_size (by repeat (first | (with_reducible first | exact HB.out | apply below_alloc | apply pw_below_drewN | apply below_drew1 | refine below_set ?_ (IsS93.ge HI676.out)) | exact HB.out)))); have n2_ := Aside0.mk (hb); have n3_ := Aside0.mk (hi); clear HO679; clear HB; clear HI676; have HO679 := n0_; have HO697 := n1_; have HB := n2_; have HI676 := n3_; clear n0_ n1_ n2_ n3_; (try clear hb); (try clear hb2); (try clear hk); (try clear hi); (try clear ho0)))
  go_ret2
  exact ⟨_, _, by first | rfl | (simp [errW_none, errW_some] <;> rfl) | (simp [*, errW_none, errW_some] <;> rfl), by (with_reducible repeat (first | apply Kd.S_alloc | apply Kd.S_drewN | apply Kd.S_drew)); exact HO679.out, by (with_reducible repeat (first | apply Kd.R_alloc | apply Kd.R_drewN | apply Kd.R_drew)); exact HO697.out, by repeat (first | (with_reducible first | exact HB.out | apply below_alloc | apply pw_below_drewN | apply below_drew1 | refine below_set ?_ (IsS93.ge HI676.out)) | exact HB.out)⟩

end Go.Proofs.YtpjpnppoejnafaaDoor.G

/- PDrawMatch -/
/-
  Drawing a selector and labels.
-/
namespace Go.Proofs.YtpjpnppoejnafaaDoor.G
open Go.RowKit Go.Proofs.YtpjpnppoejnafaaDoorW.PrintWords Go.Proofs.YtpjpnppoejnafaaDoorW.PrintLast Go.Proofs.YtpjpnppoejnafaaDoorW.PrintMore
set_option linter.unusedVariables false
set_option linter.unusedSimpArgs false
def MatOk (r : List ITerm × List ILab) : Prop := wfITerms r.1 ∧ wfILabs r.2
theorem smT_1000 {xs : List ITerm} (h : ∀ x ∈ xs, smT 100 x) : ∀ x ∈ xs, smT 1000 x := fun x hx => smT_le (by omega) (h x hx)
theorem drawMatches_tot (cs : List Int) (hl : cs.length ≤ 1048576) : Tot (fun k => spec_DrawMatches.f k cs) MatOk := by
  unfold spec_DrawMatches.f
  refine Tot.bind (l1New_tot cs hl) (fun a ha => ?_)
  obtain ⟨e, hc⟩ := ha
  rw [e]
  refine Tot.bind (l2Draw_tot cs _ _ 3 (by omega) hc) (fun b hb => Tot.bind (l1Once_tot cs _ _ _ hb.2.2) (fun c hc' => Tot.ite (fun _ => ?_) (fun _ => ?_)))
  · refine Tot.bind (l2DrawAny_tot cs _ _ hc') (fun d hd => Tot.bind (l1DrawAny_tot cs _ _ hd.2.2) (fun f hf => Tot.some ⟨wfITerms_sm hd.1 hd.2.1, wfILabs_sm hf.1 hf.2.1⟩))
  · exact Tot.bind (l1DrawAny_tot cs _ _ hc') (fun f hf => Tot.some ⟨wfITerms_sm (by have := hb.1; show b.1.length ≤ 1000; omega) (smT_1000 hb.2.1), wfILabs_sm hf.1 hf.2.1⟩)
end Go.Proofs.YtpjpnppoejnafaaDoor.G

/- G59 -/
-- Laid by wip/g/gprint.py out of the translation, by the kit's print program. Lean checks it.
namespace Go.Proofs.YtpjpnppoejnafaaDoor.G
open Go.RowKit Go.Proofs.YtpjpnppoejnafaaDoorW.PrintWords Go.Proofs.YtpjpnppoejnafaaDoorW.PrintLast Go.Proofs.YtpjpnppoejnafaaDoorW.PrintMore
attribute [local go_sem] max2_int min2_int max_two min_two max_three min_three max_four min_four   -- for this text's walks alone
set_option linter.unusedVariables false
set_option linter.unusedSimpArgs false

/-! ### strings_Join: function 59 -/
--IMPORT Derived.Test.YtpjpnppoejnafaaDoorShelf
def strings_Join.f (l0 : List ByteArray) (a1 : ByteArray) : Option ByteArray :=
  if l0.length ≤ 140737488355328 ∧ (Lib.join (l0.map (·.data.toList)) a1.data.toList).length ≤ 140737488355328 then some ⟨(Lib.join (l0.map (·.data.toList)) a1.data.toList).toArray⟩ else none
theorem strings_Join.calls (A0 : Option Addr) (c0 : Nat) (l0 : List ByteArray) (a1 : ByteArray) (r : ByteArray) (w : World) (hr0 : Kd.C Kd.string w A0 l0.length l0) (hc0 : l0.length ≤ c0) (h : strings_Join.f l0 a1 = some r) :
    Calls Tryd.prog 59 #[.slice A0 l0.length c0, .string a1] w fun e w' => e = .returned (.string r) ∧ Below w.heap.size w w' := by
  unfold strings_Join.f at h
  by_cases hl : l0.length ≤ 140737488355328 ∧ (Lib.join (l0.map (·.data.toList)) a1.data.toList).length ≤ 140737488355328
  · rw [if_pos hl] at h
    obtain rfl := Option.some.inj h
    rcases Nat.eq_zero_or_pos l0.length with h0 | h0
    · obtain rfl := List.eq_nil_of_length_eq_zero h0
      refine (Tryd.strings_Join_none A0 c0 a1 w).mono ?_
      rintro e w' ⟨rfl, rfl⟩
      exact ⟨rfl, Below.refl _ _⟩
    · obtain ⟨bk, o, rfl, hlt, hcells⟩ := C_cells (f := Value.string) (dflt := ByteArray.empty) (Kd.reads_of_C hr0) h0
      exact Tryd.strings_Join bk o c0 l0 a1 w hcells hlt hl.1 hc0 hl.2
  · rw [if_neg hl] at h
    cases h

end Go.Proofs.YtpjpnppoejnafaaDoor.G

/- PJoin -/
/-
  Joined strings: strings.Join, piece by piece.
-/
namespace Go.Proofs.YtpjpnppoejnafaaDoor.G
open Go.RowKit Go.Proofs.YtpjpnppoejnafaaDoorW.PrintWords Go.Proofs.YtpjpnppoejnafaaDoorW.PrintLast Go.Proofs.YtpjpnppoejnafaaDoorW.PrintMore
set_option linter.unusedVariables false
set_option linter.unusedSimpArgs false
def jn (xs : List ByteArray) (sep : ByteArray) : ByteArray := ⟨(Lib.join (xs.map (·.data.toList)) sep.data.toList).toArray⟩
theorem join_snoc (x s : List UInt8) : ∀ (ys : List (List UInt8)), Lib.join (ys ++ [x]) s = if ys = [] then x else Lib.join ys s ++ s ++ x
  | [] => by rw [if_pos rfl]; exact Lib.join_one x s
  | y :: ys => by
    rw [if_neg (by simp), List.cons_append, Lib.join_cons, Lib.join_cons]
    simp [Lib.joinTail, List.append_assoc]
theorem ba_eq {a b : ByteArray} (h : a.data.toList = b.data.toList) : a = b := by
  cases a; cases b; simp only at h; congr 1; exact Array.toList_inj.1 h
theorem jn_snoc (ys : List ByteArray) (x s : ByteArray) (h : ys ≠ []) : jn (ys ++ [x]) s = jn ys s ++ s ++ x := by
  apply ba_eq
  unfold jn
  rw [List.map_append, List.map_cons, List.map_nil, join_snoc, if_neg (by simpa using h)]
  simp [ByteArray.data_append]
theorem jn_one (x s : ByteArray) : jn [x] s = x := by
  apply ba_eq
  unfold jn
  rw [List.map_cons, List.map_nil, Lib.join_one]
theorem jn_nil (s : ByteArray) : jn [] s = ⟨#[]⟩ := rfl
theorem jn_size (s : ByteArray) (m : Nat) (hs : s.size ≤ m) : ∀ (xs : List ByteArray) (b : Nat), (∀ x ∈ xs, x.size ≤ b) → (jn xs s).size ≤ xs.length * (b + m) := by
  intro xs b h
  have key : ∀ n, ∀ ys : List ByteArray, ys.length = n → (∀ x ∈ ys, x.size ≤ b) → (jn ys s).size ≤ n * (b + m) := by
    intro n
    induction n with
    | zero => intro ys h0 _; obtain rfl := List.eq_nil_of_length_eq_zero h0; simp [jn_nil, ByteArray.size]
    | succ n ih =>
      intro ys hl hb
      obtain ⟨zs, z, rfl⟩ : ∃ zs z, ys = zs ++ [z] := ⟨ys.dropLast, ys.getLast (by intro h; rw [h] at hl; simp at hl), (List.dropLast_concat_getLast _).symm⟩
      have hzl : zs.length = n := by simpa using hl
      have hz := hb z (by simp)
      have e : (n + 1) * (b + m) = n * (b + m) + (b + m) := Nat.succ_mul _ _
      rcases List.eq_nil_or_concat zs with h0 | ⟨_, _, h0⟩
      · subst h0; rw [List.nil_append, jn_one]; omega
      · rw [jn_snoc zs z s (by rw [h0]; simp), ByteArray.size_append, ByteArray.size_append]
        have := ih zs hzl (fun x hx => hb x (by simp [hx]))
        omega
  exact key _ xs rfl h
theorem join_f (xs : List ByteArray) (s : ByteArray) (h : xs.length ≤ 140737488355328) (h' : (jn xs s).size ≤ 140737488355328) : strings_Join.f xs s = some (jn xs s) := by
  unfold strings_Join.f
  have e : (Lib.join (xs.map (·.data.toList)) s.data.toList).length = (jn xs s).size := by unfold jn ByteArray.size; simp
  rw [if_pos ⟨h, by rw [e]; exact h'⟩]; rfl
end Go.Proofs.YtpjpnppoejnafaaDoor.G
