import Derived.Test.YtchhognpijobcaaDoorMFnExactValueTextCard11
import Derived.Test.YtchhognpijobcaaDoorMFnExactValueTextCard12
import Derived.Handed
import Derived.Test.YtchhognpijobcaaDoorProg
import Derived.Test.YtchhognpijobcaaDoorRows
import Derived.Test.YtchhognpijobcaaDoorMFnExactValueTextCard2
import Derived.WalkKit
import Derived.ProofKit
import Derived.OpenShut
import Derived.ShutString
import Derived.ChangeOld
import Derived.Carry
import Derived.Below
import Derived.Test.YtchhognpijobcaaDoorCards
import Derived.Test.YtchhognpijobcaaDoorTie
import Derived.Lay
import Derived.LaidMore
import Derived.SevenTiedAt
import Derived.Stop.Joined
/- PValTextLaw -/
/-
  The law of ValueText: it is answered true.
-/
namespace Go.Proofs.YtchhognpijobcaaDoor.G
open Go.RowKit Go.Proofs.YtchhognpijobcaaDoorW.PrintWords Go.Proofs.YtchhognpijobcaaDoorW.PrintLast Go.Proofs.YtchhognpijobcaaDoorW.PrintMore
set_option linter.unusedVariables false
set_option linter.unusedSimpArgs false
def valTxt (x : IVal) : ByteArray := if valB x = true then txtN 6 x else ⟨#[]⟩
theorem implValueText_ev {n : Nat} (x : IVal) (h : SmI n x) : Ev (fun k => impl_ValueText.f k x.f0 x.f1 x.f2 x.f3 x.f4) (valTxt x) := by
  unfold impl_ValueText.f valTxt
  refine Ev.bind (implValueOk_ev x h) ?_
  by_cases c : valB x = true
  · rw [if_pos c]
    exact ev_if_pos c (Ev.bind (written_ev 6 n x h (of_decide_eq_true c)) (Ev.now _))
  · rw [if_neg c]
    exact ev_if_neg c (Ev.now _)
theorem specValueText_ev {n : Nat} (x : IVal) (h : SmI n x) : Ev (fun k => spec_ValueText.f k x.f0 x.f1 x.f2 x.f3 x.f4) (valTxt x) := by
  unfold spec_ValueText.f valTxt
  refine Ev.bind (specValueOk_ev x h) ?_
  by_cases c : valB x = true
  · rw [if_pos c]
    exact ev_if_pos c (Ev.bind (l4Print_ev 6 n x h (of_decide_eq_true c)) (Ev.now _))
  · rw [if_neg c]
    exact ev_if_neg c (Ev.now _)
theorem FnExactValueText_pure (s : LVal) (hw : wfVal s) : ∃ k, laws_FnExactValueText.f k s.f0 s.f1 s.f2 s.f3 s.f4 = some true := by
  refine Ev.rounds ?_
  obtain ⟨n, hn⟩ := hw
  unfold laws_FnExactValueText.f
  obtain ⟨r, hr, hL⟩ := szValue_tot n s 1048576 hn (by omega) (by omega)
  refine Ev.bind hr ?_
  rcases hL with hneg | ⟨hp, _, hs⟩
  · exact ev_if_pos hneg (Ev.now _)
  · obtain ⟨y, hy, hsm⟩ := toValue_tot n s hn hs
    exact ev_if_neg (by omega) (Ev.bind hy (Ev.bind (specValueText_ev y hsm) (Ev.bind hy (Ev.bind (implValueText_ev y hsm) (ev_if_pos rfl (Ev.bind hy (Ev.bind (eqValue_ev n y hsm) (ev_if_pos rfl (Ev.now _)))))))))
end Go.Proofs.YtchhognpijobcaaDoor.G

/- GKRow -/
/-
  The row's wrap over listed variables, the world's shape kept.
-/
namespace Go.Proofs.YtchhognpijobcaaDoor.G
open Go Go.Proofs

theorem change_and_shaped {H : Type} {enc : TypeId × Value → H} {a : Assume} {C : Checked} {os : Os} {f : FuncId} {fn : Func} {s : ChangeSpec} {conds : List PathCond} {apart fresh handsOn again : Bool} {X : World → Array Value → Prop}
    (hX : ∀ (w w' : World) (args : Array Value), w.heap = w'.heap → X w args → X w' args)
    (own : ownKnob C.prog.godebug = none) (started : os.Started) (noInit : C.prog.inits.idxOf? f = none) (hfn : C.prog.funcs[f]? = some fn)
    (witness : ∃ (w : World) (tape : Tape) (i : Input), w.os = os ∧ (w.forCall tape i).Shaped C.prog ∧ i.vars = [] ∧ Input.okWide C.prog (w.forCall tape i) .any w.heap.size f i ∧
      ((s.pre enc C.prog fn conds apart (w.forCall tape i).memory i.args ∧ X (w.forCall tape i).memory i.args) ∧ sizedMet enc C.prog fn (OpenSpec.ofChange s) apart (w.forCall tape i).memory i.args) ∧ a.holds C.prog (lone (Frame.enter C.prog f i.args .normal) [] (w.forCall tape i)))
    (contract : ∀ (W : World) (base : Nat) (args : Array Value) (ds gs : List (DataW H)) (before : List MemPlace),
      (∀ (j : Nat) t v, fn.params[j]? = some t → args[j]? = some v → Value.okWide C.prog W .any base t v) →
      DataW.Whole enc C.prog fn.params.toList s.vars apart W args.toList ds gs before →
      conds.all (PathCond.test C.prog ⟨fn.params.toList, ds, s.plain.varTypes C.prog, gs⟩) = true →
      (DataW.weightsEach C.prog (fn.params.toList ++ s.plain.varTypes C.prog) (ds ++ gs)).all (· ≤ reachBytes) = true → X W args → W.ShapedOpen C.prog →
      a.holds C.prog (lone (Frame.enter C.prog f args .normal) [] W) →
      Calls C.prog f args W fun e W' => ∃ v, e = .returned v ∧ s.post enc C.prog fn apart fresh handsOn again W args v W') :
    ReturnsInHanded a C os f .any (fun w args => (s.pre enc C.prog fn conds apart w args ∧ X w args) ∧ sizedMet enc C.prog fn (OpenSpec.ofChange s) apart w args) (s.post enc C.prog fn apart fresh handsOn again) := by
  refine returnsInHanded_of_calls own started noInit witness ?_
  intro w tape i _ hsh _ hok hpre hholds
  obtain ⟨_, _, _, fn', hfn', _, _, _, _, hval⟩ := hok
  have e : fn' = fn := Option.some.inj (hfn'.symm.trans hfn)
  subst e
  obtain ⟨⟨⟨ds, gs, before, hw, hc⟩, hx⟩, hz⟩ := hpre
  have hw' := DataW.Whole.of_heap (w' := w.forCall tape i) (by rfl) hw
  refine (contract (w.forCall tape i) w.heap.size i.args ds gs before hval hw' hc (hz.weights hw) (hX _ _ _ (by rfl) hx) hsh hholds).mono fun e W' ⟨v, he, hp⟩ => ?_
  subst he
  exact ChangeSpec.post_blind hp
end Go.Proofs.YtchhognpijobcaaDoor.G

/- RowFnExactValueTextCard -/
/- The law 'FnExactValueText' holds for every input: it returns true, and each argument reads behind the call as it read before. No condition. -/
namespace Go.Proofs.YtchhognpijobcaaDoor.fnExactValueText
open Go.ChangeShapes Go.WideShapes Go.ChangeAt Go.RowKit
set_option linter.unusedVariables false
theorem own : ownKnob Tryd.prog.godebug = none := by kernel_rfl
theorem laidOut : laidOutB Tryd.prog = true := by kernel_rfl
set_option maxRecDepth 100000 in
theorem lifted (os : Os) (started : os.Started) (H : Type) (enc : TypeId × Value → H) :
    ReturnsInHanded {} Tryd.checked os 4 .any (fun w args => (Rows.fnExactValueTextSpec.pre enc Tryd.prog Tryd.f4 Rows.fnExactValueTextRow.domain false w args ∧ laidMetH Tryd.prog Rows.fnExactValueTextRow.laid w) ∧ sizedMet enc Tryd.prog Tryd.f4 (OpenSpec.ofChange Rows.fnExactValueTextSpec) false w args) (Rows.fnExactValueTextSpec.post enc Tryd.prog Tryd.f4 false true false false) := by
  refine G.change_and_shaped (C := Tryd.checked) (X := fun w _ => laidMetH Tryd.prog Rows.fnExactValueTextRow.laid w) (fun _ _ _ hh h => h.of_heap hh) own started (by kernel_rfl) Tryd.func4
    (ChangeSpec.witness_shaped (enc := enc) (C := Tryd.checked) (os := os) (X := fun w _ => laidMetH Tryd.prog Rows.fnExactValueTextRow.laid w) false (World.laidAll Tryd.prog os Rows.fnExactValueTextRow.laid) #[.agg #[.int .i64 0, .string ByteArray.empty, .int .i64 0, .slice none 0 0, .slice none 0 0]] 8 (World.laidAll_os _ _ _)
      (World.shaped_of_ZipB (by kernel_rfl) (by kernel_rfl)) (by kernel_rfl) (by kernel_rfl) (by kernel_rfl)
      (by rw [MakeChecks.laidMetH_plain _ _ _ (by kernel_rfl)]; exact laidMet_laidAll _ (by kernel_rfl) (by kernel_rfl))) ?_
  intro W base args ds gs before hval0 hW hcnd _ hL hshape _
  have hval : ∀ (j : Nat) t v, Tryd.f4.params[j]? = some t → args[j]? = some v → Value.okWide Tryd.prog W .any base t v := hval0
  have hW' := hW
  obtain ⟨p, q, hA0, hV, rfl, hfz, hnd⟩ := hW
  have hA : DataW.TrodAll enc Tryd.prog W 0 (fun _ => true) true Tryd.f4.params.toList args.toList ds p := hA0
  rw [Tryd.params4] at hA hval
  obtain ⟨v0, vs0, d0, ds0, p0, q0, hargs0, rfl, rfl, h0, r0x⟩ := trodAll_cons hA
  obtain ⟨rfl, rfl, rfl⟩ := trodAll_nil r0x
  obtain rfl : args = #[v0] := by cases args; simp_all
  obtain ⟨rfl, rfl⟩ := trodVars_none hV
  have hlt := hW'.lt
  have hk0 := h0
  obtain ⟨s0, A0_3, c0_3, A0_4, c0_4, rfl, w0, l0_3, q0_3, l0_4, q0_4⟩ := G.kopen_value (hval 0 28 v0 rfl rfl) h0
  clear hA0 hval0
  obtain ⟨k, hk⟩ := G.FnExactValueText_pure s0 w0
  refine (G.laws_FnExactValueText.calls k s0.f0 s0.f1 s0.f2 A0_3 c0_3 s0.f3 A0_4 c0_4 s0.f4 true W q0_3 l0_3 q0_4 l0_4 (G.SH.of hshape) hk).mono fun e W' ⟨he, bel⟩ => ?_
  subst he
  exact ⟨_, rfl, _, _, _, [], _, [], hW', trodAll_mk1 (shut_bool Tryd.underlying4 _), (trodAll_cons_mk (Below.trod laidOut (by kernel_rfl) (of_decide_eq_true (by kernel_rfl)) hk0 bel (fun x hx => hlt x (by simp [hx]))) trodAll_mk0), rfl, bel.frame _, fun h => by cases h⟩
theorem over : Rows.fnExactValueTextRow.holds Tryd.pinned (OpenSpec.ofChange Rows.fnExactValueTextSpec) :=
  OpenClaim.holds_of_wide 4 Tryd.f4 rfl rfl rfl rfl rfl rfl rfl ⟨rfl, rfl, rfl, rfl, rfl⟩ rfl rfl rfl rfl rfl (by kernel_rfl) Tryd.func4 (by kernel_rfl)
    (of_decide_eq_true (by kernel_rfl)) (by unfold Func.isWrapper; first | (rw [if_pos (by decide +kernel)]; kernel_rfl) | (rw [if_neg (by decide +kernel)]; exact ⟨rfl, rfl⟩))
    (fun os started H enc _ => lifted os started H enc)
theorem proved : Rows.FnExactValueTextSaid := over
#print axioms proved
end Go.Proofs.YtchhognpijobcaaDoor.fnExactValueText
namespace Go.Proofs.YtchhognpijobcaaDoor
theorem fnExactValueTextCard_holds : Rows.FnExactValueTextCardSaid :=
  Claim7.holds_tied_plain_at .later [] [.data, .pinned] true (true, "54c651b9c64be20fa246e25f28148a4c2f311f3159a23607e0a709c027eda79d") false fnExactValueText.proved (fun _ h => by cases h) (by kernel_rfl) (fun _ h => by cases h) fnExactValueText_row_tie rfl ⟨rfl, rfl⟩ (by kernel_rfl) rfl
    (fun f fn hf hfn => by
      obtain rfl : f = 4 := Option.some.inj ((show Tryd.prog.funcNamed "loop.example/g00119/laws.FnExactValueText" = some 4 by kernel_rfl).symm.trans hf) |>.symm
      obtain rfl : fn = Tryd.f4 := (Option.some.inj (Tryd.func4.symm.trans hfn)).symm
      exact ⟨by kernel_rfl, fun j t ht => by
        rw [Tryd.params4] at ht
        have hm : t ∈ [28] := by simpa using Array.mem_of_getElem? ht
        have hall : ([28].all fun u => !Tryd.prog.wantsStandIn u) = true := by kernel_rfl
        exact (show Tryd.prog.wantsStandIn t = false by simpa using List.all_eq_true.1 hall t hm)⟩)
    (by kernel_rfl)
end Go.Proofs.YtchhognpijobcaaDoor
