import Derived.Test.YtcapmfgamdiijaaDoorCards
import Derived.Test.YtcapmfgamdiijaaDoorTie
import Derived.Test.YtcapmfgamdiijaaDoorBEncodeCommit8
import Derived.Test.YtcapmfgamdiijaaDoorBEncodeCommit13
import Derived.Test.YtcapmfgamdiijaaDoorBEncodeCommit14
import Derived.Test.YtcapmfgamdiijaaDoorBEncodeCommit2
import Derived.WalkKit
import Derived.ProofKit
import Derived.OpenShut
import Derived.ShutString
import Derived.ChangeOld
import Derived.Below
import Derived.SizedLaws
import Derived.Deep.DeepHandedRow
namespace Go.Proofs.YtcapmfgamdiijaaDoor.fnExactEncodeCommit
open Go.ChangeShapes Go.WideShapes Go.ChangeAt Go.RowKit Go.Proofs.YtcapmfgamdiijaaDoorX Go.Proofs.YtcapmfgamdiijaaDoor.PX Go.Proofs.YtcapmfgamdiijaaDoorW.PrintWords
open Go.ChangeMaps (open_string shut_string)
set_option linter.unusedVariables false
theorem own : ownKnob Tryd.prog.godebug = none := by kernel_rfl
theorem laidOut : laidOutB Tryd.prog = true := by kernel_rfl
def ok9 (x : ByteArray) : Prop := x.size ≤ 140737488351232
theorem o9 : Opens Tryd.prog 9 Kd.string ok9 := opens_string Tryd.underlying9 (by kernel_rfl)
def ok27 (x : List (ByteArray)) : Prop := x.length * Tryd.prog.bytesOf 9 ≤ 140737488351232 ∧ ∀ y ∈ x, ok9 y
theorem o27 : Opens Tryd.prog 27 (Kd.slice 9 Kd.string) ok27 := opens_slice o9 Tryd.underlying27 (by kernel_rfl)
def ok2 (x : Int) : Prop := (Lit.int .i64 x).wf = true
theorem o2 : Opens Tryd.prog 2 (Kd.int .i64) ok2 := opens_int Tryd.underlying2 (by kernel_rfl)
theorem oF29 {fs : Array Go.Field} (hu : Tryd.prog.underlying 29 = some (.struct fs)) : OpensF Tryd.prog 0 fs.toList (Kd.pair Kd.string (Kd.pair (Kd.slice 9 Kd.string) (Kd.pair (Kd.int .i64) Kd.string))) (fun y : (ByteArray) × (List (ByteArray)) × (Int) × (ByteArray) => ok9 y.1 ∧ ok27 y.2.1 ∧ ok2 y.2.2.1 ∧ ok9 y.2.2.2) := by
  have e := Option.some.inj (hu.symm.trans Tryd.underlying29)
  injection e with e
  subst e
  exact (opensF_cons o9 (by rfl) (opensF_cons o27 (by rfl) (opensF_cons o2 (by rfl) (opensF_one o9 (by rfl)))))
set_option maxRecDepth 100000 in
/-- What the walks give, at every argument. -/
theorem contract (H : Type) (enc : TypeId × Value → H) (W : World) (base : Nat) (args : Array Value) (ds gs : List (DataW H)) (before : List MemPlace)
    (hval0 : ∀ (j : Nat) t v, Tryd.f9.params[j]? = some t → args[j]? = some v → Value.okWide Tryd.prog W .any base t v)
    (hW : DataW.Whole enc Tryd.prog Tryd.f9.params.toList Rows.fnExactEncodeCommitSpec.vars false W args.toList ds gs before)
    (hsz0 : (DataW.weightsEach Tryd.prog (Tryd.f9.params.toList ++ Rows.fnExactEncodeCommitSpec.plain.varTypes Tryd.prog) (ds ++ gs)).all (· ≤ reachBytes) = true) (hG : Gt W) :
    Calls Tryd.prog 9 args W fun e W' => ∃ v, e = .returned v ∧ Rows.fnExactEncodeCommitSpec.post enc Tryd.prog Tryd.f9 false true false false W args v W' := by
  have hsz : (DataW.weightsEach Tryd.prog (Tryd.f9.params.toList ++ Rows.fnExactEncodeCommitSpec.plain.varTypes Tryd.prog) (ds ++ gs)).all (· ≤ reachBytes) = true := hsz0
  have hval : ∀ (j : Nat) t v, Tryd.f9.params[j]? = some t → args[j]? = some v → Value.okWide Tryd.prog W .any base t v := hval0
  have hW' := hW
  obtain ⟨p, q, hA0, hV, rfl, hfz, hnd⟩ := hW
  have hA : DataW.TrodAll enc Tryd.prog W 0 (fun _ => true) true Tryd.f9.params.toList args.toList ds p := hA0
  rw [Tryd.params9] at hA hval hsz
  obtain ⟨v0, vs0, d0, ds0, p0, q0, hargs, rfl, rfl, h0, r0⟩ := trodAll_cons hA
  obtain ⟨rfl, rfl, rfl⟩ := trodAll_nil r0
  obtain rfl : args = #[v0] := by cases args; simp_all
  obtain ⟨rfl, rfl⟩ := trodVars_none hV
  have k0_ := h0
  have lt0 : ∀ x ∈ p0, x.block < W.heap.size := by obtain ⟨m, hm⟩ := k0_; exact DataW.trod_lt m _ _ _ hm
  obtain ⟨x0, cs0, rfl, ⟨_, _, hcs0, rfl, _, _, rfl, ⟨A0_1, c0_1, rfl, hc0_1, hr0_1⟩, _, _, rfl, rfl, rfl⟩, hs0⟩ := param_struct (oF29 Tryd.underlying29) Tryd.underlying29 (by kernel_rfl) h0 (by obtain ⟨cs, hcs, _⟩ := Go.WideShapes.okWide_struct Tryd.underlying29 (hval 0 29 v0 rfl rfl); exact ⟨cs, hcs⟩) (small_of hsz (j := 0) (t := 29) rfl rfl)
  obtain rfl : cs0 = #[.string x0.1, .slice A0_1 x0.2.1.length c0_1, .int .i64 x0.2.2.1, .string x0.2.2.2] := by cases cs0; simpa using hcs0
  clear hA0 hval0 hsz0 hsz
  obtain ⟨k, hp⟩ := encodeCommit_pure (x0.1) (x0.2.1) (x0.2.2.1) (x0.2.2.2) (hs0.1) (hs0.2.1) (hs0.2.2.1) (hs0.2.2.2)
  refine (laws_FnExactEncodeCommit.calls k x0.1 A0_1 c0_1 x0.2.1 x0.2.2.1 x0.2.2.2 true W hr0_1 hc0_1 hG hp).mono fun e W' ⟨he, bel⟩ => ?_
  subst he
  exact ⟨_, rfl, _, _, _, [], _, [], hW', trodAll_mk1 (shut_bool Tryd.underlying4 _), (trodAll_cons_mk (Below.trod laidOut (by kernel_rfl) (of_decide_eq_true (by kernel_rfl)) k0_ bel lt0) trodAll_mk0), rfl, bel.frame _, fun h => by cases h⟩
theorem reads (os : Os) {H : Type} (enc : TypeId × Value → H) : ∃ places, DataW.whole enc Tryd.prog ((laidWorld os).forCall (fun _ _ => 0) ⟨#[], #[.agg #[.string ByteArray.empty, .slice none 0 0, .int .i64 0, .string ByteArray.empty]], []⟩).memory Tryd.f9.params.toList Rows.fnExactEncodeCommitSpec.vars false (#[.agg #[.string ByteArray.empty, .slice none 0 0, .int .i64 0, .string ByteArray.empty]] : Array Value).toList 8 = some ([.agg [.lit (.string []), .nil, .lit (.int .i64 0), .lit (.string [])]], [], places) :=
  ⟨[], by kernel_rfl⟩
set_option maxRecDepth 100000 in
theorem wv (os : Os) : ((laidWorld os).forCall (fun _ _ => 0) ⟨#[], #[.agg #[.string ByteArray.empty, .slice none 0 0, .int .i64 0, .string ByteArray.empty]], []⟩).variablesB Tryd.checked.prog = true := by kernel_rfl
set_option maxRecDepth 100000 in
theorem wr (os : Os) : (((laidWorld os).forCall (fun _ _ => 0) ⟨#[], #[.agg #[.string ByteArray.empty, .slice none 0 0, .int .i64 0, .string ByteArray.empty]], []⟩).heap.toList.drop Tryd.checked.prog.globals.size).take ((begin Tryd.checked.prog (fun _ _ => 0) default).world.heap.size - Tryd.checked.prog.globals.size) = (begin Tryd.checked.prog (fun _ _ => 0) default).world.heap.toList.drop Tryd.checked.prog.globals.size := by kernel_rfl
set_option maxRecDepth 100000 in
theorem wok (os : Os) : Input.okWideB Tryd.checked.prog ((laidWorld os).forCall (fun _ _ => 0) ⟨#[], #[.agg #[.string ByteArray.empty, .slice none 0 0, .int .i64 0, .string ByteArray.empty]], []⟩) 9 ⟨#[], #[.agg #[.string ByteArray.empty, .slice none 0 0, .int .i64 0, .string ByteArray.empty]], []⟩ = true := by kernel_rfl
set_option maxRecDepth 100000 in
theorem wlaid (os : Os) : laidMet Tryd.checked.prog Rows.fnExactEncodeCommitRow.laid ((laidWorld os).forCall (fun _ _ => 0) ⟨#[], #[.agg #[.string ByteArray.empty, .slice none 0 0, .int .i64 0, .string ByteArray.empty]], []⟩).memory := laidMet_of_run' 8 (by as_aux_lemma => kernel_rfl) (by as_aux_lemma => kernel_rfl)
set_option maxRecDepth 100000 in
theorem wrow (os : Os) {H : Type} (enc : TypeId × Value → H) : (OpenSpec.ofChange Rows.fnExactEncodeCommitSpec).preRow enc Tryd.checked.prog Tryd.f9 Rows.fnExactEncodeCommitRow.domain false Rows.fnExactEncodeCommitRow.laid ((laidWorld os).forCall (fun _ _ => 0) ⟨#[], #[.agg #[.string ByteArray.empty, .slice none 0 0, .int .i64 0, .string ByteArray.empty]], []⟩).memory #[.agg #[.string ByteArray.empty, .slice none 0 0, .int .i64 0, .string ByteArray.empty]] := by
  obtain ⟨places, hx⟩ := reads os enc
  exact OpenSpec.preRow_of_cond 8 hx (by as_aux_lemma => kernel_rfl) (fun k hk => by cases hk) (by as_aux_lemma => kernel_rfl) (wlaid os)
set_option maxRecDepth 100000 in
theorem wit (os : Os) {H : Type} (enc : TypeId × Value → H) : ∃ (w : World) (tape : Tape) (i : Input), w.os = os ∧ (w.forCall tape i).Shaped Tryd.checked.prog ∧ i.vars = [] ∧ Input.okWide Tryd.checked.prog (w.forCall tape i) .any w.heap.size 9 i ∧ (OpenSpec.ofChange Rows.fnExactEncodeCommitSpec).preRow enc Tryd.checked.prog Tryd.f9 Rows.fnExactEncodeCommitRow.domain false Rows.fnExactEncodeCommitRow.laid (w.forCall tape i).memory i.args ∧ ({} : Assume).holds Tryd.checked.prog (lone (Frame.enter Tryd.checked.prog 9 i.args .normal) [] (w.forCall tape i)) :=
  witness_row_at (enc := enc) (C := Tryd.checked) (f := 9) (fn := Tryd.f9) (s := OpenSpec.ofChange Rows.fnExactEncodeCommitSpec) (conds := Rows.fnExactEncodeCommitRow.domain) (apart := false) (laid := Rows.fnExactEncodeCommitRow.laid) false (laidWorld os) #[.agg #[.string ByteArray.empty, .slice none 0 0, .int .i64 0, .string ByteArray.empty]] rfl (wv os) (wr os) (wok os) (wrow os enc)
set_option maxRecDepth 100000 in
theorem lifted (os : Os) (started : os.Started) (H : Type) (enc : TypeId × Value → H) (F : Stop.Interp) :
    ReturnsInHanded {} Tryd.checked os 9 .any ((OpenSpec.ofChange Rows.fnExactEncodeCommitSpec).preRow enc Tryd.prog Tryd.f9 Rows.fnExactEncodeCommitRow.domain false Rows.fnExactEncodeCommitRow.laid) (((OpenSpec.ofChange Rows.fnExactEncodeCommitSpec).at F).post enc Tryd.prog Tryd.f9 false true false false) := by
  refine returnsInHanded_of_row (C := Tryd.checked) (s := OpenSpec.ofChange Rows.fnExactEncodeCommitSpec) own started (by kernel_rfl) Tryd.func9 (wit os enc) ?_
  intro W base args ds gs before hval hW _ _ hsz0 hL _ _
  exact contract H enc W base args ds gs before hval hW hsz0 (Gt.of_laid (by kernel_rfl) hL)
set_option maxHeartbeats 4000000 in
theorem over : Rows.FnExactEncodeCommitSaid :=
  OpenClaim.holds_of_cond 9 Tryd.f9 rfl rfl rfl rfl rfl rfl rfl ⟨rfl, rfl, rfl, rfl, rfl⟩ rfl rfl rfl rfl rfl (by as_aux_lemma => kernel_rfl) Tryd.func9 (by as_aux_lemma => kernel_rfl)
    (of_decide_eq_true (by as_aux_lemma => kernel_rfl)) (by unfold Func.isWrapper; first | (rw [if_pos (by decide +kernel)]; kernel_rfl) | (rw [if_neg (by decide +kernel)]; exact ⟨rfl, rfl⟩))
    (fun os started H enc _ F => by rw [OpenClaim.pre_eq_preRow]; exact lifted os started H enc F)
theorem plain (f : FuncId) (fn : Func) (hf : Tryd.pinned.checked.prog.funcNamed "loop.example/g00172/laws.FnExactEncodeCommit" = some f) (hfn : Tryd.pinned.checked.prog.funcs[f]? = some fn) :
    false = Tryd.pinned.checked.prog.looks [] ∧ ∀ (j : Nat) t, fn.params[j]? = some t → Tryd.pinned.checked.prog.wantsStandIn t = false := by
  obtain rfl : f = 9 := Option.some.inj ((show Tryd.prog.funcNamed "loop.example/g00172/laws.FnExactEncodeCommit" = some 9 by kernel_rfl).symm.trans hf) |>.symm
  obtain rfl : fn = Tryd.f9 := (Option.some.inj (Tryd.func9.symm.trans hfn)).symm
  refine ⟨by kernel_rfl, fun j t ht => ?_⟩
  rw [Tryd.params9] at ht
  have hm : t ∈ [29] := by simpa using Array.mem_of_getElem? ht
  have hall : ([29].all fun u => !Tryd.prog.wantsStandIn u) = true := by kernel_rfl
  exact (show Tryd.prog.wantsStandIn t = false by simpa using List.all_eq_true.1 hall t hm)
set_option maxHeartbeats 4000000 in
theorem card : Rows.FnExactEncodeCommitCardSaid :=
  Claim7.holds_tied_plain_at .later [] _ _ _ _ over (fun _ h => by cases h) (by as_aux_lemma => kernel_rfl) (fun _ h => by cases h) fnExactEncodeCommit_row_tie rfl ⟨rfl, rfl⟩ (by as_aux_lemma => kernel_rfl) rfl plain (by as_aux_lemma => kernel_rfl)
end Go.Proofs.YtcapmfgamdiijaaDoor.fnExactEncodeCommit
namespace Go.Proofs.YtcapmfgamdiijaaDoor
theorem fnExactEncodeCommit_holds : Rows.FnExactEncodeCommitCardSaid := fnExactEncodeCommit.card
end Go.Proofs.YtcapmfgamdiijaaDoor
