import Derived.Test.YteilcchcekmooaaMFnEven4
import Derived.Test.YteilcchcekmooaaMFnEven10
import Derived.Test.YteilcchcekmooaaMFnEven12
import Derived.Test.YteilcchcekmooaaMFnEven13
import Derived.Test.YteilcchcekmooaaProg
import Derived.Test.YteilcchcekmooaaMFnEven1
import Derived.WideShapes
import Derived.KernelRfl
import Derived.Test.YteilcchcekmooaaRows
import Derived.WalkKit
import Derived.ProofKit
import Derived.OpenShut
import Derived.ShutString
import Derived.ChangeOld
import Derived.Carry
import Derived.Below
import Derived.Handed
/- PEven -/
/-
  The law of even shares is answered true.
-/
namespace Go.Proofs.Yteilcchcekmooaa.G
open Go.RowKit Go.Sort Go.Proofs.YteilcchcekmooaaW.PrintWords Go.Proofs.YteilcchcekmooaaW.PrintLast Go.Proofs.YteilcchcekmooaaW.PrintMore
set_option linter.unusedVariables false
set_option linter.unusedSimpArgs false
theorem dOnce_tot (xs : List Int) (p s n : Int) (h : Cur xs p) : Tot (fun _ => spec_l1Once.f xs p s n) (fun r => Cur xs r.2.1) := by
  unfold spec_l1Once.f
  exact Tot.bind (l1Below_tot xs p s n h) (fun a ha => Tot.some ha.2)
theorem drawFair_j0 (n : Int) (ws cs l : List Int) (b : Bool) (xs : List Int) (p s : Int) (hc : Cur xs p) (hb : b = true → 0 < l.length) : Tot (fun k => spec_DrawFairOk.j0 k n ws cs l b xs p s) (fun _ => True) := by
  refine Tot.step (fun k => by rw [spec_DrawFairOk.j0]) (Tot.ite (fun c => ?_) (fun c => Tot.some trivial))
  have hl := hb c
  refine Tot.bind (l1Below_tot xs p s _ hc) (fun a ha => Tot.bind (l1Below_tot xs _ _ _ ha.2) (fun e he => Tot.bind (l1Below_tot xs _ _ 3 he.2) (fun d hd => ?_)))
  have h1 := Upto.lt ha.1 (by omega)
  have h2 := Upto.lt he.1 (by omega)
  refine Tot.pos h1.1 (Tot.pos h1.2 ?_)
  simp only [Option.bind_some]
  exact Tot.pos h2.1 (Tot.pos h2.2 (Tot.some trivial))
theorem drawFair_tot (l : List Int) (hl : l.length ≤ 1048576) : Tot (fun k => spec_DrawFairOk.f k l) (fun _ => True) := by
  unfold spec_DrawFairOk.f
  refine Tot.bind (l1New_tot l hl) (fun a ha => Tot.bind (l1Size_tot l 8 hl (by omega)) (fun b hb => ?_))
  rw [ha.1]
  refine Tot.bind (l6Draw_tot l _ _ _ ha.2 hb) (fun c hc => ?_)
  obtain ⟨q, _, hs, _⟩ := divide_both c.1 c.2.1 c.2.2.1
  refine Tot.bindE hs (Tot.ite (fun h1 => Tot.bind (dOnce_tot l _ _ 2 hc.2) (fun e he => drawFair_j0 _ _ _ q _ l _ _ he (fun _ => by omega))) (fun h1 => drawFair_j0 _ _ _ q _ l _ _ hc.2 (fun h => by cases h)))
theorem at_tot (l0 : List Int) (hl : l0.length ≤ 1048576) (hw : ∀ x ∈ l0, 0 ≤ x ∧ x ≤ 255) (i : Nat) (hi : i ≤ 100) : ∃ r, laws_at.f l0 (i : Int) = some r ∧ 0 ≤ r ∧ r ≤ 255 := by
  unfold laws_at.f
  by_cases c : (i : Int) < (l0.length : Int)
  · rw [if_pos c, if_pos (by omega)]
    have hm := hw (l0[i]'(by omega)) (List.getElem_mem _)
    have e : rd l0 (i : Int) = l0[i]'(by omega) := by unfold rd; rw [Int.toNat_natCast, List.getD_eq_getElem?_getD, List.getElem?_eq_getElem (by omega)]; rfl
    rw [e, w64 (by omega) (by omega)]
    exact ⟨_, rfl, hm⟩
  · rw [if_neg c, w64 (x := (i : Int) * 31) (by omega) (by omega), w64 (x := (l0.length : Int) * 7) (by omega) (by omega), w64 (by omega) (by omega)]
    have := tmod_range (a := (i : Int) * 31 + (l0.length : Int) * 7) (n := 256) (by omega) (by omega)
    exact ⟨_, rfl, by omega, by omega⟩
/-! ### the same weights, caps enough -/
def evW (k : Nat) : List Int := mapR k (fun _ => 3)
def evC (k : Nat) : List Int := mapR k (fun _ => 1000)
section
variable {m : Int} {k : Nat}
theorem ev_ok (h0 : 0 ≤ m) (h1 : m ≤ 999) (hk : k ≤ 9) : ShOk m (evW k) (evC k) := by
  have lw : (evW k).length = k := mapR_len _ _
  have lc : (evC k).length = k := mapR_len _ _
  refine ⟨h0, by omega, by omega, by omega, fun i hi => ?_, fun i hi => ?_⟩
  · have e : rd (evW k) (i : Int) = 3 := mapR_rd _ (by omega)
    omega
  · have e : rd (evC k) (i : Int) = 1000 := mapR_rd _ (by omega)
    omega
theorem ev_open {j : Nat} (hj : j < k) : opnF (evW k) (evC k) (fun _ => 0) j = true := by
  have e : rd (evW k) (j : Int) = 3 := mapR_rd _ hj
  have e2 : rd (evC k) (j : Int) = 1000 := mapR_rd _ hj
  rw [opn_iff]
  omega
theorem ev_cnt : ∀ i, i ≤ k → cnt (opnF (evW k) (evC k) (fun _ => 0)) i = i
  | 0, _ => rfl
  | i + 1, hi => by rw [cnt_succ, ev_cnt i (by omega), if_pos (ev_open (by omega))]
theorem ev_sum : ∀ i, i ≤ k → sumQ (evW k) (opI (opnF (evW k) (evC k) (fun _ => 0)) (evW k).length) i = 3 * i
  | 0, _ => rfl
  | i + 1, hi => by
    have lw : (evW k).length = k := mapR_len _ _
    have hw := w_open (ws := evW k) (p := opnF (evW k) (evC k) (fun _ => 0)) (j := i) (by omega) (ev_open (by omega))
    rw [ev_cnt i (by omega)] at hw
    have e : rd (evW k) (i : Int) = 3 := mapR_rd _ (by omega)
    rw [sumQ, ev_sum i (by omega), hw, e]
    omega
theorem ev_want (h0 : 0 < m) (h1 : m ≤ 999) (hk0 : 0 < k) (hk : k ≤ 9) {j : Nat} (hj : j < k) : m / k ≤ wantO m (evW k) (evC k) (fun _ => 0) j ∧ wantO m (evW k) (evC k) (fun _ => 0) j ≤ m / k + 1 := by
  have lw : (evW k).length = k := mapR_len _ _
  have hl := opI_len (p := opnF (evW k) (evC k) (fun _ => 0)) (evW k).length
  have hc : cnt (opnF (evW k) (evC k) (fun _ => 0)) (evW k).length = k := by rw [lw]; exact ev_cnt k (Nat.le_refl _)
  have hw := w_open (ws := evW k) (p := opnF (evW k) (evC k) (fun _ => 0)) (j := j) (by omega) (ev_open hj)
  have e : rd (evW k) (j : Int) = 3 := mapR_rd _ hj
  have eq : qQ m (evW k) (opI (opnF (evW k) (evC k) (fun _ => 0)) (evW k).length) (cnt (opnF (evW k) (evC k) (fun _ => 0)) j) = m / k := by
    unfold qQ
    rw [hw, e, hl, hc, ev_sum k (Nat.le_refl _), Int.tdiv_eq_ediv_of_nonneg (by omega), Int.mul_comm m 3, Int.mul_ediv_mul_of_pos _ _ (by omega)]
  unfold wantO wantF
  rw [if_pos (ev_open hj), eq]
  split <;> omega
theorem ev_div (h0 : 0 ≤ m) (h1 : m ≤ 999) (hk0 : 0 < k) (hk : k ≤ 9) : ∃ g : Nat → Int, Ev (fun q => impl_Divide.f q m (evW k) (evC k)) (mapR k g) ∧ (∀ j, j < k → m / k ≤ g j ∧ g j ≤ m / k + 1) ∧ sumR g k = m := by
  have lw : (evW k).length = k := mapR_len _ _
  have lc : (evC k).length = k := mapR_len _ _
  have h := ev_ok (k := k) h0 h1 hk
  have S : Shr (evW k) (evC k) (fun _ => 0) := ⟨fun j hj => by have e : rd (evC k) (j : Int) = 1000 := mapR_rd _ (by omega); omega, fun _ _ _ => rfl⟩
  have start : ∀ {W}, Ev (fun q => impl_Divide.l0 q m (evW k) (evC k) (mapR (evW k).length (fun _ => 0))) W → Ev (fun q => impl_Divide.f q m (evW k) (evC k)) W := fun hW => by
    unfold impl_Divide.f
    simp only [sharesOk_eq, Option.bind_some, shOk_iff.2 h]
    refine ev_if_pos trivial (ev_if_pos (by omega) (ev_if_pos (by omega) ?_))
    rw [Int.toNat_natCast, mapR_repl]
    exact hW
  by_cases hm : 0 < m
  · have hc : 0 < cnt (opnF (evW k) (evC k) (fun _ => 0)) (evW k).length := by rw [lw, ev_cnt k (Nat.le_refl _)]; exact hk0
    have HP := qpre h hc
    have hdk : m / (k : Int) ≤ 999 := Int.le_trans (Int.ediv_le_self _ h0) h1
    have ht : ∀ j, j < k → takeF m (evW k) (evC k) (fun _ => 0) j = wantO m (evW k) (evC k) (fun _ => 0) j := fun j hj => by
      have e : rd (evC k) (j : Int) = 1000 := mapR_rd _ hj
      have hw := ev_want hm h1 hk0 hk hj
      unfold takeF
      dsimp only
      rw [e, if_neg (by omega)]
    have hs : sumR (takeF m (evW k) (evC k) (fun _ => 0)) (evW k).length = m := by
      have h2 : sumR (wantO m (evW k) (evC k) (fun _ => 0)) (evW k).length = m := want_sum HP
      rw [lw] at h2 ⊢
      rw [sumR_congr (g := wantO m (evW k) (evC k) (fun _ => 0)) ht]
      exact h2
    refine ⟨fun j => takeF m (evW k) (evC k) (fun _ => 0) j, start (implRound h S hm hc ?_), fun j hj => ?_, ?_⟩
    · rw [hs, Int.sub_self, mapR_congr (g := fun j => takeF m (evW k) (evC k) (fun _ => 0) j) (fun j hj => by omega), lw]
      exact implEnd
    · show m / k ≤ takeF m (evW k) (evC k) (fun _ => 0) j ∧ takeF m (evW k) (evC k) (fun _ => 0) j ≤ m / k + 1
      rw [ht j hj]
      exact ev_want hm h1 hk0 hk hj
    · rw [lw] at hs
      exact hs
  · obtain rfl : m = 0 := by omega
    refine ⟨fun _ => 0, start ?_, fun j hj => by simp, sumR_zero k⟩
    rw [lw]
    exact implEnd
theorem sumTo_sumR (l : List Int) : ∀ i, sumTo l i = sumR (fun j => rd l (j : Int)) i
  | 0 => rfl
  | i + 1 => by rw [sumTo, sumR, sumTo_sumR l i]; rfl
theorem ev_fair (h0 : 0 ≤ m) (h1 : m ≤ 999) (hk0 : 0 < k) (hk : k ≤ 9) {g : Nat → Int} (hg : ∀ j, j < k → m / k ≤ g j ∧ g j ≤ m / k + 1) (hs : sumR g k = m) : fairB m (evW k) (evC k) (mapR k g) = true := by
  have lw : (evW k).length = k := mapR_len _ _
  have h := ev_ok (k := k) h0 h1 hk
  have hdk : 0 ≤ m / (k : Int) ∧ m / (k : Int) ≤ 999 := ⟨Int.ediv_nonneg h0 (by omega), Int.le_trans (Int.ediv_le_self _ h0) h1⟩
  have rg : ∀ j, j < k → ix (mapR k g) j = g j := fun j hj => mapR_rd _ hj
  have rw_ : ∀ j, j < k → ix (evW k) j = 3 := fun j hj => mapR_rd _ hj
  have rc : ∀ j, j < k → ix (evC k) j = 1000 := fun j hj => mapR_rd _ hj
  have hsum : sumR (capF (evW k) (evC k)) k = 1000 * k := by
    have : ∀ i, i ≤ k → sumR (capF (evW k) (evC k)) i = 1000 * i := by
      intro i
      induction i with
      | zero => intro _; rfl
      | succ i ih =>
        intro hi
        have e : rd (evW k) (i : Int) = 3 := mapR_rd _ (by omega)
        have e2 : rd (evC k) (i : Int) = 1000 := mapR_rd _ (by omega)
        rw [sumR, ih (by omega)]
        unfold capF
        rw [e, e2, if_pos (by omega)]
        omega
    exact this k (Nat.le_refl _)
  rw [fairB_iff]
  refine ⟨shOk_iff.2 h, by rw [mapR_len, lw], fun i hi => ?_, fun i hi j hj hb => ?_, ?_⟩
  · rw [lw] at hi
    have := hg i hi
    unfold okI
    rw [rg i hi, rc i hi, rw_ i hi]
    omega
  · rw [lw] at hi hj
    have h1 := hg i hi
    have h2 := hg j hj
    have := hb.2.2.2.2.2
    rw [rg i hi, rg j hj, rw_ i hi, rw_ j hj] at this
    omega
  · rw [lw, sumTo_sumR, sumR_congr (f := fun j => rd (mapR k g) (j : Int)) (g := g) (n := k) rg, hs]
    unfold totI
    rw [if_pos (shOk_iff.2 h), lw, hsum, if_pos (by omega)]
end
theorem even_l1 {m : Int} {k : Nat} (h0 : 0 ≤ m) (h1 : m ≤ 999) (hk0 : 0 < k) (hk : k ≤ 9) {g : Nat → Int} (hg : ∀ j, j < k → m / k ≤ g j ∧ g j ≤ m / k + 1) (hs : sumR g k = m) :
    Ev (fun q => laws_FnEven.l1 q (k : Int) m (evW k) (evC k) (mapR k g) 0) true := by
  have hdk : 0 ≤ m / (k : Int) ∧ m / (k : Int) ≤ 999 := ⟨Int.ediv_nonneg h0 (by omega), Int.le_trans (Int.ediv_le_self _ h0) h1⟩
  have hq : wrap64 (Int.tdiv m (k : Int)) = m / k := by rw [Int.tdiv_eq_ediv_of_nonneg h0, w64 (by omega) (by omega)]
  have h2 := loop_all (g := fun q i => laws_FnEven.l1 q (k : Int) m (evW k) (evC k) (mapR k g) i) k (fun _ => true) true (fun i hi hok r hr => by
    have hgi := hg i hi
    have rg : rd (mapR k g) (i : Int) = g i := mapR_rd _ hi
    refine Ev.step (fun q => by rw [laws_FnEven.l1]) (ev_if_pos (by rw [mapR_len]; omega) (ev_if_pos (by omega) (ev_if_neg (by omega) ?_)))
    simp only [rg, hq, w64 (x := m / (k : Int) + 1) (by omega) (by omega), wsucc hi (by omega)]
    exact ev_if_neg (by omega) (ev_if_neg (by omega) hr)) (fun i hi hok => by cases hok) (by
    refine Ev.step (fun q => by rw [laws_FnEven.l1]) (ev_if_neg (by rw [mapR_len]; omega) (ev_if_pos (by rw [mapR_len]) ?_))
    have hf := implFair_ev m (evW k) (evC k) (mapR k g)
    rw [ev_fair h0 h1 hk0 hk hg hs] at hf
    exact Ev.bind hf (ev_some rfl))
  rw [Bool.and_true, allN_true.2 (fun _ _ => rfl)] at h2
  exact h2
theorem mapR_succ (c : Int) (i : Nat) : mapR (i + 1) (fun _ => c) = mapR i (fun _ => c) ++ [c] := by
  unfold mapR
  rw [List.range_succ, List.map_append]
  rfl
theorem FnEven_pure (l0 : List Int) (hw : l0.length ≤ 9223372036854775807 ∧ ∀ x ∈ l0, 0 ≤ x ∧ x ≤ 255) : ∃ k, laws_FnEven.f k l0 = some true := by
  suffices h : Ev (fun k => laws_FnEven.f k l0) true by obtain ⟨K, hK⟩ := h; exact ⟨K, hK K (Nat.le_refl _)⟩
  unfold laws_FnEven.f laws_big.f
  simp only [Option.bind_some, decide_eq_true_eq]
  by_cases c1 : (l0.length : Int) > 1048576
  · exact ev_if_pos c1 (ev_some rfl)
  refine ev_if_neg c1 ?_
  obtain ⟨⟨n, ws, cs, sh⟩, hd, _⟩ := drawFair_tot l0 (by omega)
  refine Ev.bind hd (Ev.bind (implFair_ev n ws cs sh) ?_)
  unfold spec_FairOk.f
  simp only [Option.bind_some]
  refine ev_if_neg (by simp) ?_
  obtain ⟨a, ha, a0, a1⟩ := at_tot l0 (by omega) hw.2 2 (by omega)
  obtain ⟨b, hb, b0, b1⟩ := at_tot l0 (by omega) hw.2 3 (by omega)
  rw [show ((2 : Nat) : Int) = 2 from rfl] at ha
  rw [show ((3 : Nat) : Int) = 3 from rfl] at hb
  simp only [ha, hb, Option.bind_some]
  have t1 := tmod_range (a := a) (n := 9) a0 (by omega)
  have e1 : wrap64 (1 + Int.tmod a 9) = 1 + Int.tmod a 9 := w64 (by omega) (by omega)
  have e2 : wrap64 (b * 7) = b * 7 := w64 (by omega) (by omega)
  have t2 := tmod_range (a := b * 7) (n := 1000) (by omega) (by omega)
  rw [e1, e2]
  obtain ⟨k, hk⟩ : ∃ k : Nat, 1 + Int.tmod a 9 = (k : Int) := ⟨(1 + Int.tmod a 9).toNat, by omega⟩
  rw [hk]
  generalize Int.tmod (b * 7) 1000 = m at *
  obtain ⟨g, hdv, hg, hs⟩ := ev_div (m := m) (k := k) t2.1 (by omega) (by omega) (by omega)
  have key : ∀ d i, i + d = k → Ev (fun q => laws_FnEven.l0 q (k : Int) m (mapR i (fun _ => 3)) (mapR i (fun _ => 1000)) (i : Int)) true := by
    intro d
    induction d with
    | zero =>
      intro i hi
      obtain rfl : i = k := by omega
      have d1 : Ev (fun q => impl_Divide.f q m (mapR i (fun _ => 3)) (mapR i (fun _ => 1000))) (mapR i g) := hdv
      have d2 : Ev (fun q => laws_FnEven.l1 q (i : Int) m (mapR i (fun _ => 3)) (mapR i (fun _ => 1000)) (mapR i g) 0) true := even_l1 t2.1 (by omega) (by omega) (by omega) hg hs
      exact Ev.step (fun q => by rw [laws_FnEven.l0]) (ev_if_neg (by omega) (Ev.bind d1 d2))
    | succ d ih =>
      intro i hi
      have ih := ih (i + 1) (by omega)
      rw [mapR_succ, mapR_succ] at ih
      refine Ev.step (fun q => by rw [laws_FnEven.l0]) (ev_if_pos (by omega) (ev_if_pos (by rw [mapR_len]; omega) (ev_if_pos (by rw [mapR_len]; omega) ?_)))
      simp only [wsucc (show i < k by omega) (by omega)]
      exact ih
  exact key k 0 (by omega)
end Go.Proofs.Yteilcchcekmooaa.G

/- GKArgs -/
/-
  The arguments of the laws, opened: at this dump's type numbers.
-/
namespace Go.Proofs.Yteilcchcekmooaa.G
open Go.RowKit Go.Proofs.YteilcchcekmooaaW.PrintWords Go.Proofs.YteilcchcekmooaaW.PrintLast Go.Proofs.YteilcchcekmooaaW.PrintMore
set_option linter.unusedVariables false
section
variable {H : Type} {enc : TypeId × Value → H} {w : World} {base : Nat} {spare : Nat → Bool} {held : Bool} {v : Value} {d : DataW H} {p : List MemPlace} {r : Reach} {b0 : Nat}
set_option maxRecDepth 20000 in
/-- A slice of such elements. -/
theorem kopen_of {α : Type} {t e : TypeId} {k : Kd α} {Wf : α → Prop} (ht : Try.prog.underlying t = some (.slice e)) (hsz : Try.prog.cellsOf e = k.sz) (hpos : 0 < k.sz) (ho : ∀ m, KOpens enc Try.prog w base spare held m e k Wf)
    (hv : Value.okWide Try.prog w r b0 t v) (h : DataW.Trod enc Try.prog w base spare held t v d p) :
    ∃ (xs : List α) (A : Option Addr) (c : Nat), v = .slice A xs.length c ∧ (xs.length ≤ 9223372036854775807 ∧ ∀ x ∈ xs, Wf x) ∧ xs.length ≤ c ∧ Kd.C k w A xs.length xs := by
  obtain ⟨A, n, c, rfl⟩ := Go.WideShapes.okWide_slice ht hv
  obtain ⟨fuel, h⟩ := h
  obtain ⟨xs, hw, A', c', he, hl, hC⟩ := kopens_slice ht hsz hpos (fun _ _ => trivial) (fun m _ => ho m) _ _ h
  have he' : [Value.slice A n c] = [Value.slice A' xs.length c'] := he
  simp only [List.cons.injEq, and_true] at he'
  exact ⟨xs, A', c', he', hw, hl, hC⟩
set_option maxRecDepth 20000 in
theorem kopen_bytes (hv : Value.okWide Try.prog w r b0 28 v) (h : DataW.Trod enc Try.prog w base spare held 28 v d p) :
    ∃ (xs : List Int) (A : Option Addr) (c : Nat), v = .slice A xs.length c ∧ (xs.length ≤ 9223372036854775807 ∧ ∀ x ∈ xs, 0 ≤ x ∧ x ≤ 255) ∧ xs.length ≤ c ∧ Kd.C (Kd.int .u8) w A xs.length xs :=
  kopen_of Try.underlying28 (by kernel_rfl) (by decide) (fun m => kopens_u8 Try.underlying5) hv h
end
end Go.Proofs.Yteilcchcekmooaa.G

/- RowFnEven -/
/- The law 'FnEven' holds for every input: it returns true, and each argument reads behind the call as it read before. No condition. -/
namespace Go.Proofs.Yteilcchcekmooaa.fnEven
open Go.ChangeShapes Go.WideShapes Go.ChangeAt Go.RowKit
set_option linter.unusedVariables false
theorem own : ownKnob Try.prog.godebug = none := by kernel_rfl
theorem laidOut : laidOutB Try.prog = true := by kernel_rfl
set_option maxRecDepth 100000 in
theorem lifted (os : Os) (started : os.Started) (H : Type) (enc : TypeId × Value → H) :
    ReturnsInHanded {} Try.checked os 5 .any (Rows.fnEvenSpec.pre6 enc Try.prog Try.f5 Rows.fnEvenRow.domain false) (Rows.fnEvenSpec.post enc Try.prog Try.f5 false true false false) := by
  refine returnsInHanded_of_change (C := Try.checked) own started (by kernel_rfl) Try.func5
    (ChangeSpec.witness6 (enc := enc) (C := Try.checked) false ⟨#[], #[.slice none 0 0], []⟩ 8 (by kernel_rfl) (by kernel_rfl) (by kernel_rfl) (by kernel_rfl)) ?_
  intro W base args ds gs before hval0 hW hcnd _
  have hval : ∀ (j : Nat) t v, Try.f5.params[j]? = some t → args[j]? = some v → Value.okWide Try.prog W .any base t v := hval0
  have hW' := hW
  obtain ⟨p, q, hA0, hV, rfl, hfz, hnd⟩ := hW
  have hA : DataW.TrodAll enc Try.prog W 0 (fun _ => true) true Try.f5.params.toList args.toList ds p := hA0
  rw [Try.params5] at hA hval
  obtain ⟨v0, vs0, d0, ds0, p0, q0, hargs0, rfl, rfl, h0, r0x⟩ := trodAll_cons hA
  obtain ⟨rfl, rfl, rfl⟩ := trodAll_nil r0x
  obtain rfl : args = #[v0] := by cases args; simp_all
  obtain ⟨rfl, rfl⟩ := trodVars_none hV
  have hlt := hW'.lt
  have hk0 := h0
  obtain ⟨x0, A0, c0, rfl, w0, l0, q0⟩ := G.kopen_bytes (hval 0 28 v0 rfl rfl) h0
  clear hA0 hval0
  obtain ⟨k, hk⟩ := G.FnEven_pure x0 w0
  refine (G.laws_FnEven.calls k A0 c0 x0 true W q0 l0 hk).mono fun e W' ⟨he, bel⟩ => ?_
  subst he
  exact ⟨_, rfl, _, _, _, [], _, [], hW', trodAll_mk1 (shut_bool Try.underlying4 _), (trodAll_cons_mk (Below.trod laidOut (by kernel_rfl) (of_decide_eq_true (by kernel_rfl)) hk0 bel (fun x hx => hlt x (by simp [hx]))) trodAll_mk0), rfl, bel.frame _, fun h => by cases h⟩
theorem over : Rows.fnEvenRow.holds Try.pinned (OpenSpec.ofChange Rows.fnEvenSpec) :=
  OpenClaim.holds_of_wide 5 Try.f5 rfl rfl rfl rfl rfl rfl rfl ⟨rfl, rfl, rfl, rfl, rfl⟩ rfl rfl rfl rfl rfl (by kernel_rfl) Try.func5 (by kernel_rfl)
    (of_decide_eq_true (by kernel_rfl)) (by unfold Func.isWrapper; first | (rw [if_pos (by decide +kernel)]; kernel_rfl) | (rw [if_neg (by decide +kernel)]; exact ⟨rfl, rfl⟩))
    (fun os started H enc _ => lifted os started H enc)
theorem proved : Rows.FnEvenSaid := over
#print axioms proved
end Go.Proofs.Yteilcchcekmooaa.fnEven
namespace Go.Proofs.Yteilcchcekmooaa
theorem fnEven_holds : Rows.FnEvenSaid := fnEven.proved
end Go.Proofs.Yteilcchcekmooaa
