import Derived.Test.YtjibadlbiapcmaaDoorCards
import Derived.Test.YtjibadlbiapcmaaDoorTie
import Derived.Test.YtjibadlbiapcmaaDoorBAD11
import Derived.Test.YtjibadlbiapcmaaDoorBAD33
import Derived.Test.YtjibadlbiapcmaaDoorBAD5
import Derived.WalkKit
import Derived.ProofKit
import Derived.OpenShut
import Derived.ShutString
import Derived.ChangeOld
import Derived.Below
import Derived.SizedLaws
import Derived.Deep.DeepHandedRow
namespace Go.Proofs.YtjibadlbiapcmaaDoor.fnExactApplyDeltas
open Go.ChangeShapes Go.WideShapes Go.ChangeAt Go.RowKit Go.Proofs.YtjibadlbiapcmaaDoorX Go.Proofs.YtjibadlbiapcmaaDoor.PX Go.Proofs.YtjibadlbiapcmaaDoorW.PrintWords
open Go.ChangeMaps (open_string shut_string)
set_option linter.unusedVariables false
theorem own : ownKnob Tryd.prog.godebug = none := by kernel_rfl
theorem laidOut : laidOutB Tryd.prog = true := by kernel_rfl
def ok9 (x : ByteArray) : Prop := x.size ≤ 140737488351232
theorem o9 : Opens Tryd.prog 9 Kd.string ok9 := opens_string Tryd.underlying9 (by kernel_rfl)
def ok2 (x : Int) : Prop := (Lit.int .i64 x).wf = true
theorem o2 : Opens Tryd.prog 2 (Kd.int .i64) ok2 := opens_int Tryd.underlying2 (by kernel_rfl)
def ok102 (x : S102) : Prop := ok9 x.f0 ∧ ok2 x.f1 ∧ ok9 x.f2
theorem o102 : Opens Tryd.prog 102 k102 ok102 := opens_struct (d := (Kd.pair Kd.string (Kd.pair (Kd.int .i64) Kd.string))) (S := fun y : (ByteArray) × (Int) × (ByteArray) => ok9 y.1 ∧ ok2 y.2.1 ∧ ok9 y.2.2) (opensF_cons o9 (by rfl) (opensF_cons o2 (by rfl) (opensF_one o9 (by rfl)))) Tryd.underlying102 (by kernel_rfl) (fun x : S102 => (x.f0, x.f1, x.f2)) (fun a => ⟨a.1, a.2.1, a.2.2⟩) (fun _ => rfl)
def ok51 (x : List (S102)) : Prop := x.length * Tryd.prog.bytesOf 102 ≤ 140737488351232 ∧ ∀ y ∈ x, ok102 y
theorem o51 : Opens Tryd.prog 51 (Kd.slice 102 k102) ok51 := opens_slice o102 Tryd.underlying51 (by kernel_rfl)
def ok105 (x : S105) : Prop := ok9 x.f0 ∧ ok102 x.f1 ∧ ok102 x.f2
theorem o105 : Opens Tryd.prog 105 k105 ok105 := opens_struct (d := (Kd.pair Kd.string (Kd.pair k102 k102))) (S := fun y : (ByteArray) × (S102) × (S102) => ok9 y.1 ∧ ok102 y.2.1 ∧ ok102 y.2.2) (opensF_cons o9 (by rfl) (opensF_cons o102 (by rfl) (opensF_one o102 (by rfl)))) Tryd.underlying105 (by kernel_rfl) (fun x : S105 => (x.f0, x.f1, x.f2)) (fun a => ⟨a.1, a.2.1, a.2.2⟩) (fun _ => rfl)
def ok52 (x : List (S105)) : Prop := x.length * Tryd.prog.bytesOf 105 ≤ 140737488351232 ∧ ∀ y ∈ x, ok105 y
theorem o52 : Opens Tryd.prog 52 (Kd.slice 105 k105) ok52 := opens_slice o105 Tryd.underlying52 (by kernel_rfl)
set_option maxRecDepth 100000 in
/-- What the walks give, at every argument. -/
theorem contract (H : Type) (enc : TypeId × Value → H) (W : World) (base : Nat) (args : Array Value) (ds gs : List (DataW H)) (before : List MemPlace)
    (hval0 : ∀ (j : Nat) t v, Tryd.f6.params[j]? = some t → args[j]? = some v → Value.okWide Tryd.prog W .any base t v)
    (hW : DataW.Whole enc Tryd.prog Tryd.f6.params.toList Rows.fnExactApplyDeltasSpec.vars false W args.toList ds gs before)
    (hsz0 : (DataW.weightsEach Tryd.prog (Tryd.f6.params.toList ++ Rows.fnExactApplyDeltasSpec.plain.varTypes Tryd.prog) (ds ++ gs)).all (· ≤ reachBytes) = true) :
    Calls Tryd.prog 6 args W fun e W' => ∃ v, e = .returned v ∧ Rows.fnExactApplyDeltasSpec.post enc Tryd.prog Tryd.f6 false true false false W args v W' := by
  have hsz : (DataW.weightsEach Tryd.prog (Tryd.f6.params.toList ++ Rows.fnExactApplyDeltasSpec.plain.varTypes Tryd.prog) (ds ++ gs)).all (· ≤ reachBytes) = true := hsz0
  have hval : ∀ (j : Nat) t v, Tryd.f6.params[j]? = some t → args[j]? = some v → Value.okWide Tryd.prog W .any base t v := hval0
  have hW' := hW
  obtain ⟨p, q, hA0, hV, rfl, hfz, hnd⟩ := hW
  have hA : DataW.TrodAll enc Tryd.prog W 0 (fun _ => true) true Tryd.f6.params.toList args.toList ds p := hA0
  rw [Tryd.params6] at hA hval hsz
  obtain ⟨v0, vs0, d0, ds0, p0, q0, hargs, rfl, rfl, h0, r0⟩ := trodAll_cons hA
  obtain ⟨v1, vs1, d1, ds1, p1, q1, rfl, rfl, rfl, h1, r1⟩ := trodAll_cons r0
  obtain ⟨rfl, rfl, rfl⟩ := trodAll_nil r1
  obtain rfl : args = #[v0, v1] := by cases args; simp_all
  obtain ⟨rfl, rfl⟩ := trodVars_none hV
  have k0_ := h0
  have lt0 : ∀ x ∈ p0, x.block < W.heap.size := by obtain ⟨m, hm⟩ := k0_; exact DataW.trod_lt m _ _ _ hm
  obtain ⟨A0, c0, l0, rfl, hc0, hr0, hb0, hs0⟩ := param_slice o51 h0 (okWide_slice Tryd.underlying51 (hval 0 51 v0 rfl rfl)) (small_of hsz (j := 0) (t := 51) rfl rfl)
  have bb0 : l0.length * 40 ≤ 140737488351232 := hb0
  have k1_ := h1
  have lt1 : ∀ x ∈ p1, x.block < W.heap.size := by obtain ⟨m, hm⟩ := k1_; exact DataW.trod_lt m _ _ _ hm
  obtain ⟨A1, c1, l1, rfl, hc1, hr1, hb1, hs1⟩ := param_slice o52 h1 (okWide_slice Tryd.underlying52 (hval 1 52 v1 rfl rfl)) (small_of hsz (j := 1) (t := 52) rfl rfl)
  have bb1 : l1.length * 96 ≤ 140737488351232 := hb1
  clear hA0 hval0 hsz0 hsz
  obtain ⟨k, hp⟩ := Go.Proofs.YtjibadlbiapcmaaDoorX.applyDeltas_pure l0 l1 bb0 hs0 bb1 hs1
  refine (laws_FnExactApplyDeltas.calls k A0 c0 l0 A1 c1 l1 true W hr0 hc0 hr1 hc1 hp).mono fun e W' ⟨he, bel⟩ => ?_
  subst he
  exact ⟨_, rfl, _, _, _, [], _, [], hW', trodAll_mk1 (shut_bool Tryd.underlying4 _), (trodAll_cons_mk (Below.trod laidOut (by kernel_rfl) (of_decide_eq_true (by kernel_rfl)) k0_ bel lt0) (trodAll_cons_mk (Below.trod laidOut (by kernel_rfl) (of_decide_eq_true (by kernel_rfl)) k1_ bel lt1) trodAll_mk0)), rfl, bel.frame _, fun h => by cases h⟩
theorem reads (os : Os) {H : Type} (enc : TypeId × Value → H) : ∃ places, DataW.whole enc Tryd.prog ((laidWorld os).forCall (fun _ _ => 0) ⟨#[], #[.slice none 0 0, .slice none 0 0], []⟩).memory Tryd.f6.params.toList Rows.fnExactApplyDeltasSpec.vars false (#[.slice none 0 0, .slice none 0 0] : Array Value).toList 8 = some ([.nil, .nil], [], places) :=
  ⟨[], by kernel_rfl⟩
set_option maxRecDepth 100000 in
theorem wv (os : Os) : ((laidWorld os).forCall (fun _ _ => 0) ⟨#[], #[.slice none 0 0, .slice none 0 0], []⟩).variablesB Tryd.checked.prog = true := by kernel_rfl
set_option maxRecDepth 100000 in
theorem wr (os : Os) : (((laidWorld os).forCall (fun _ _ => 0) ⟨#[], #[.slice none 0 0, .slice none 0 0], []⟩).heap.toList.drop Tryd.checked.prog.globals.size).take ((begin Tryd.checked.prog (fun _ _ => 0) default).world.heap.size - Tryd.checked.prog.globals.size) = (begin Tryd.checked.prog (fun _ _ => 0) default).world.heap.toList.drop Tryd.checked.prog.globals.size := by kernel_rfl
set_option maxRecDepth 100000 in
theorem wok (os : Os) : Input.okWideB Tryd.checked.prog ((laidWorld os).forCall (fun _ _ => 0) ⟨#[], #[.slice none 0 0, .slice none 0 0], []⟩) 6 ⟨#[], #[.slice none 0 0, .slice none 0 0], []⟩ = true := by kernel_rfl
set_option maxRecDepth 100000 in
theorem wlaid (os : Os) : laidMet Tryd.checked.prog Rows.fnExactApplyDeltasRow.laid ((laidWorld os).forCall (fun _ _ => 0) ⟨#[], #[.slice none 0 0, .slice none 0 0], []⟩).memory := laidMet_of_run' 8 (by as_aux_lemma => kernel_rfl) (by as_aux_lemma => kernel_rfl)
set_option maxRecDepth 100000 in
theorem wrow (os : Os) {H : Type} (enc : TypeId × Value → H) : (OpenSpec.ofChange Rows.fnExactApplyDeltasSpec).preRow enc Tryd.checked.prog Tryd.f6 Rows.fnExactApplyDeltasRow.domain false Rows.fnExactApplyDeltasRow.laid ((laidWorld os).forCall (fun _ _ => 0) ⟨#[], #[.slice none 0 0, .slice none 0 0], []⟩).memory #[.slice none 0 0, .slice none 0 0] := by
  obtain ⟨places, hx⟩ := reads os enc
  exact OpenSpec.preRow_of_cond 8 hx (by as_aux_lemma => kernel_rfl) (fun k hk => by cases hk) (by as_aux_lemma => kernel_rfl) (wlaid os)
set_option maxRecDepth 100000 in
theorem wit (os : Os) {H : Type} (enc : TypeId × Value → H) : ∃ (w : World) (tape : Tape) (i : Input), w.os = os ∧ (w.forCall tape i).Shaped Tryd.checked.prog ∧ i.vars = [] ∧ Input.okWide Tryd.checked.prog (w.forCall tape i) .any w.heap.size 6 i ∧ (OpenSpec.ofChange Rows.fnExactApplyDeltasSpec).preRow enc Tryd.checked.prog Tryd.f6 Rows.fnExactApplyDeltasRow.domain false Rows.fnExactApplyDeltasRow.laid (w.forCall tape i).memory i.args ∧ ({} : Assume).holds Tryd.checked.prog (lone (Frame.enter Tryd.checked.prog 6 i.args .normal) [] (w.forCall tape i)) :=
  witness_row_at (enc := enc) (C := Tryd.checked) (f := 6) (fn := Tryd.f6) (s := OpenSpec.ofChange Rows.fnExactApplyDeltasSpec) (conds := Rows.fnExactApplyDeltasRow.domain) (apart := false) (laid := Rows.fnExactApplyDeltasRow.laid) false (laidWorld os) #[.slice none 0 0, .slice none 0 0] rfl (wv os) (wr os) (wok os) (wrow os enc)
set_option maxRecDepth 100000 in
theorem lifted (os : Os) (started : os.Started) (H : Type) (enc : TypeId × Value → H) (F : Stop.Interp) :
    ReturnsInHanded {} Tryd.checked os 6 .any ((OpenSpec.ofChange Rows.fnExactApplyDeltasSpec).preRow enc Tryd.prog Tryd.f6 Rows.fnExactApplyDeltasRow.domain false Rows.fnExactApplyDeltasRow.laid) (((OpenSpec.ofChange Rows.fnExactApplyDeltasSpec).at F).post enc Tryd.prog Tryd.f6 false true false false) := by
  refine returnsInHanded_of_row (C := Tryd.checked) (s := OpenSpec.ofChange Rows.fnExactApplyDeltasSpec) own started (by kernel_rfl) Tryd.func6 (wit os enc) ?_
  intro W base args ds gs before hval hW _ _ hsz0 hL _ _
  exact contract H enc W base args ds gs before hval hW hsz0
set_option maxHeartbeats 4000000 in
theorem over : Rows.FnExactApplyDeltasSaid :=
  OpenClaim.holds_of_cond 6 Tryd.f6 rfl rfl rfl rfl rfl rfl rfl ⟨rfl, rfl, rfl, rfl, rfl⟩ rfl rfl rfl rfl rfl (by as_aux_lemma => kernel_rfl) Tryd.func6 (by as_aux_lemma => kernel_rfl)
    (of_decide_eq_true (by as_aux_lemma => kernel_rfl)) (by unfold Func.isWrapper; first | (rw [if_pos (by decide +kernel)]; kernel_rfl) | (rw [if_neg (by decide +kernel)]; exact ⟨rfl, rfl⟩))
    (fun os started H enc _ F => by rw [OpenClaim.pre_eq_preRow]; exact lifted os started H enc F)
theorem plain (f : FuncId) (fn : Func) (hf : Tryd.pinned.checked.prog.funcNamed "loop.example/g00172/laws.FnExactApplyDeltas" = some f) (hfn : Tryd.pinned.checked.prog.funcs[f]? = some fn) :
    false = Tryd.pinned.checked.prog.looks [] ∧ ∀ (j : Nat) t, fn.params[j]? = some t → Tryd.pinned.checked.prog.wantsStandIn t = false := by
  obtain rfl : f = 6 := Option.some.inj ((show Tryd.prog.funcNamed "loop.example/g00172/laws.FnExactApplyDeltas" = some 6 by kernel_rfl).symm.trans hf) |>.symm
  obtain rfl : fn = Tryd.f6 := (Option.some.inj (Tryd.func6.symm.trans hfn)).symm
  refine ⟨by kernel_rfl, fun j t ht => ?_⟩
  rw [Tryd.params6] at ht
  have hm : t ∈ [51, 52] := by simpa using Array.mem_of_getElem? ht
  have hall : ([51, 52].all fun u => !Tryd.prog.wantsStandIn u) = true := by kernel_rfl
  exact (show Tryd.prog.wantsStandIn t = false by simpa using List.all_eq_true.1 hall t hm)
set_option maxHeartbeats 4000000 in
theorem card : Rows.FnExactApplyDeltasCardSaid :=
  Claim7.holds_tied_plain_at .later [] _ _ _ _ over (fun _ h => by cases h) (by as_aux_lemma => kernel_rfl) (fun _ h => by cases h) fnExactApplyDeltas_row_tie rfl ⟨rfl, rfl⟩ (by as_aux_lemma => kernel_rfl) rfl plain (by as_aux_lemma => kernel_rfl)
end Go.Proofs.YtjibadlbiapcmaaDoor.fnExactApplyDeltas
namespace Go.Proofs.YtjibadlbiapcmaaDoor
theorem fnExactApplyDeltas_holds : Rows.FnExactApplyDeltasCardSaid := fnExactApplyDeltas.card
end Go.Proofs.YtjibadlbiapcmaaDoor
