import Derived.Test.YtkjgnnhpjcofiaaGreatDoorCards
import Derived.Test.YtkjgnnhpjcofiaaGreatDoorTie
import Derived.Test.YtkjgnnhpjcofiaaGreatDoorBReadFiles13
import Derived.Test.YtkjgnnhpjcofiaaGreatDoorBReadFiles45
import Derived.Test.YtkjgnnhpjcofiaaGreatDoorBReadFiles6
import Derived.WalkKit
import Derived.ProofKit
import Derived.OpenShut
import Derived.ShutString
import Derived.ChangeOld
import Derived.Below
import Derived.SizedLaws
import Derived.Deep.DeepHandedRow
namespace Go.Proofs.YtkjgnnhpjcofiaaGreatDoor.fnExactReadFiles
open Go.ChangeShapes Go.WideShapes Go.ChangeAt Go.RowKit Go.Proofs.YtkjgnnhpjcofiaaGreatDoorX Go.Proofs.YtkjgnnhpjcofiaaGreatDoor.PX Go.Proofs.YtkjgnnhpjcofiaaGreatDoorW.PrintWords
open Go.ChangeMaps (open_string shut_string)
set_option linter.unusedVariables false
theorem own : ownKnob Tryz.prog.godebug = none := by kernel_rfl
theorem laidOut : laidOutB Tryz.prog = true := by kernel_rfl
def ok9 (x : ByteArray) : Prop := x.size ≤ 140737488351232
theorem o9 : Opens Tryz.prog 9 Kd.string ok9 := opens_string Tryz.underlying9 (by kernel_rfl)
def ok2 (x : Int) : Prop := (Lit.int .i64 x).wf = true
theorem o2 : Opens Tryz.prog 2 (Kd.int .i64) ok2 := opens_int Tryz.underlying2 (by kernel_rfl)
def ok61 (x : S61) : Prop := ok9 x.f0 ∧ ok2 x.f1 ∧ ok9 x.f2
theorem o61 : Opens Tryz.prog 61 k61 ok61 := opens_struct (d := (Kd.pair Kd.string (Kd.pair (Kd.int .i64) Kd.string))) (S := fun y : (ByteArray) × (Int) × (ByteArray) => ok9 y.1 ∧ ok2 y.2.1 ∧ ok9 y.2.2) (opensF_cons o9 (by rfl) (opensF_cons o2 (by rfl) (opensF_one o9 (by rfl)))) Tryz.underlying61 (by kernel_rfl) (fun x : S61 => (x.f0, x.f1, x.f2)) (fun a => ⟨a.1, a.2.1, a.2.2⟩) (fun _ => rfl)
def ok22 (x : List (S61)) : Prop := x.length * Tryz.prog.bytesOf 61 ≤ 140737488351232 ∧ ∀ y ∈ x, ok61 y
theorem o22 : Opens Tryz.prog 22 (Kd.slice 61 k61) ok22 := opens_slice o61 Tryz.underlying22 (by kernel_rfl)
set_option maxRecDepth 100000 in
/-- What the walks give, at every argument. -/
theorem contract (H : Type) (enc : TypeId × Value → H) (W : World) (base : Nat) (args : Array Value) (ds gs : List (DataW H)) (before : List MemPlace)
    (hval0 : ∀ (j : Nat) t v, Tryz.f3.params[j]? = some t → args[j]? = some v → Value.okWide Tryz.prog W .any base t v)
    (hW : DataW.Whole enc Tryz.prog Tryz.f3.params.toList Rows.fnExactReadFilesSpec.vars false W args.toList ds gs before)
    (hsz0 : (DataW.weightsEach Tryz.prog (Tryz.f3.params.toList ++ Rows.fnExactReadFilesSpec.plain.varTypes Tryz.prog) (ds ++ gs)).all (· ≤ reachBytes) = true) (hG : Gt W) :
    Calls Tryz.prog 3 args W fun e W' => ∃ v, e = .returned v ∧ Rows.fnExactReadFilesSpec.post enc Tryz.prog Tryz.f3 false true false false W args v W' := by
  have hsz : (DataW.weightsEach Tryz.prog (Tryz.f3.params.toList ++ Rows.fnExactReadFilesSpec.plain.varTypes Tryz.prog) (ds ++ gs)).all (· ≤ reachBytes) = true := hsz0
  have hval : ∀ (j : Nat) t v, Tryz.f3.params[j]? = some t → args[j]? = some v → Value.okWide Tryz.prog W .any base t v := hval0
  have hW' := hW
  obtain ⟨p, q, hA0, hV, rfl, hfz, hnd⟩ := hW
  have hA : DataW.TrodAll enc Tryz.prog W 0 (fun _ => true) true Tryz.f3.params.toList args.toList ds p := hA0
  rw [Tryz.params3] at hA hval hsz
  obtain ⟨v0, vs0, d0, ds0, p0, q0, hargs, rfl, rfl, h0, r0⟩ := trodAll_cons hA
  obtain ⟨v1, vs1, d1, ds1, p1, q1, rfl, rfl, rfl, h1, r1⟩ := trodAll_cons r0
  obtain ⟨rfl, rfl, rfl⟩ := trodAll_nil r1
  obtain rfl : args = #[v0, v1] := by cases args; simp_all
  obtain ⟨rfl, rfl⟩ := trodVars_none hV
  have k0_ := h0
  have lt0 : ∀ x ∈ p0, x.block < W.heap.size := by obtain ⟨m, hm⟩ := k0_; exact DataW.trod_lt m _ _ _ hm
  obtain ⟨A0, c0, l0, rfl, hc0, hr0, hb0, hs0⟩ := param_slice o22 h0 (okWide_slice Tryz.underlying22 (hval 0 22 v0 rfl rfl)) (small_of hsz (j := 0) (t := 22) rfl rfl)
  have bb0 : l0.length * 40 ≤ 140737488351232 := hb0
  obtain ⟨a1, rfl, rfl, rfl, y1⟩ := open_string Tryz.underlying9 (hval 1 9 v1 rfl rfl) h1
  have w1 : a1.size ≤ 140737488351232 := by
    have z := sized_string hsz (j := 1) (t := 9) rfl rfl
    rw [Array.length_toList] at z
    exact z
  clear hA0 hval0 hsz0 hsz
  obtain ⟨k, hp⟩ := Go.Proofs.YtkjgnnhpjcofiaaGreatDoorX.readFiles_pure l0 a1 bb0 hs0 w1
  refine (laws_FnExactReadFiles.calls k A0 c0 l0 a1 true W hr0 hc0 hG hp).mono fun e W' ⟨he, bel⟩ => ?_
  subst he
  exact ⟨_, rfl, _, _, _, [], _, [], hW', trodAll_mk1 (shut_bool Tryz.underlying4 _), (trodAll_cons_mk (Below.trod laidOut (by kernel_rfl) (of_decide_eq_true (by kernel_rfl)) k0_ bel lt0) (trodAll_cons_mk (shut_string Tryz.underlying9 y1) trodAll_mk0)), rfl, bel.frame _, fun h => by cases h⟩
theorem reads (os : Os) {H : Type} (enc : TypeId × Value → H) : ∃ places, DataW.whole enc Tryz.prog ((laidWorld os).forCall (fun _ _ => 0) ⟨#[], #[.slice none 0 0, .string ByteArray.empty], []⟩).memory Tryz.f3.params.toList Rows.fnExactReadFilesSpec.vars false (#[.slice none 0 0, .string ByteArray.empty] : Array Value).toList 8 = some ([.nil, .lit (.string [])], [], places) :=
  ⟨[], by kernel_rfl⟩
set_option maxRecDepth 100000 in
theorem wv (os : Os) : ((laidWorld os).forCall (fun _ _ => 0) ⟨#[], #[.slice none 0 0, .string ByteArray.empty], []⟩).variablesB Tryz.checked.prog = true := by kernel_rfl
set_option maxRecDepth 100000 in
theorem wr (os : Os) : (((laidWorld os).forCall (fun _ _ => 0) ⟨#[], #[.slice none 0 0, .string ByteArray.empty], []⟩).heap.toList.drop Tryz.checked.prog.globals.size).take ((begin Tryz.checked.prog (fun _ _ => 0) default).world.heap.size - Tryz.checked.prog.globals.size) = (begin Tryz.checked.prog (fun _ _ => 0) default).world.heap.toList.drop Tryz.checked.prog.globals.size := by kernel_rfl
set_option maxRecDepth 100000 in
theorem wok (os : Os) : Input.okWideB Tryz.checked.prog ((laidWorld os).forCall (fun _ _ => 0) ⟨#[], #[.slice none 0 0, .string ByteArray.empty], []⟩) 3 ⟨#[], #[.slice none 0 0, .string ByteArray.empty], []⟩ = true := by kernel_rfl
set_option maxRecDepth 100000 in
theorem wlaid (os : Os) : laidMet Tryz.checked.prog Rows.fnExactReadFilesRow.laid ((laidWorld os).forCall (fun _ _ => 0) ⟨#[], #[.slice none 0 0, .string ByteArray.empty], []⟩).memory := laidMet_of_run' 8 (by as_aux_lemma => kernel_rfl) (by as_aux_lemma => kernel_rfl)
set_option maxRecDepth 100000 in
theorem wrow (os : Os) {H : Type} (enc : TypeId × Value → H) : (OpenSpec.ofChange Rows.fnExactReadFilesSpec).preRow enc Tryz.checked.prog Tryz.f3 Rows.fnExactReadFilesRow.domain false Rows.fnExactReadFilesRow.laid ((laidWorld os).forCall (fun _ _ => 0) ⟨#[], #[.slice none 0 0, .string ByteArray.empty], []⟩).memory #[.slice none 0 0, .string ByteArray.empty] := by
  obtain ⟨places, hx⟩ := reads os enc
  exact OpenSpec.preRow_of_cond 8 hx (by as_aux_lemma => kernel_rfl) (fun k hk => by cases hk) (by as_aux_lemma => kernel_rfl) (wlaid os)
set_option maxRecDepth 100000 in
theorem wit (os : Os) {H : Type} (enc : TypeId × Value → H) : ∃ (w : World) (tape : Tape) (i : Input), w.os = os ∧ (w.forCall tape i).Shaped Tryz.checked.prog ∧ i.vars = [] ∧ Input.okWide Tryz.checked.prog (w.forCall tape i) .any w.heap.size 3 i ∧ (OpenSpec.ofChange Rows.fnExactReadFilesSpec).preRow enc Tryz.checked.prog Tryz.f3 Rows.fnExactReadFilesRow.domain false Rows.fnExactReadFilesRow.laid (w.forCall tape i).memory i.args ∧ ({} : Assume).holds Tryz.checked.prog (lone (Frame.enter Tryz.checked.prog 3 i.args .normal) [] (w.forCall tape i)) :=
  witness_row_at (enc := enc) (C := Tryz.checked) (f := 3) (fn := Tryz.f3) (s := OpenSpec.ofChange Rows.fnExactReadFilesSpec) (conds := Rows.fnExactReadFilesRow.domain) (apart := false) (laid := Rows.fnExactReadFilesRow.laid) false (laidWorld os) #[.slice none 0 0, .string ByteArray.empty] rfl (wv os) (wr os) (wok os) (wrow os enc)
set_option maxRecDepth 100000 in
theorem lifted (os : Os) (started : os.Started) (H : Type) (enc : TypeId × Value → H) (F : Stop.Interp) :
    ReturnsInHanded {} Tryz.checked os 3 .any ((OpenSpec.ofChange Rows.fnExactReadFilesSpec).preRow enc Tryz.prog Tryz.f3 Rows.fnExactReadFilesRow.domain false Rows.fnExactReadFilesRow.laid) (((OpenSpec.ofChange Rows.fnExactReadFilesSpec).at F).post enc Tryz.prog Tryz.f3 false true false false) := by
  refine returnsInHanded_of_row (C := Tryz.checked) (s := OpenSpec.ofChange Rows.fnExactReadFilesSpec) own started (by kernel_rfl) Tryz.func3 (wit os enc) ?_
  intro W base args ds gs before hval hW _ _ hsz0 hL _ _
  exact contract H enc W base args ds gs before hval hW hsz0 (Gt.of_laid (by kernel_rfl) (by kernel_rfl) hL)
set_option maxHeartbeats 4000000 in
theorem over : Rows.FnExactReadFilesSaid :=
  OpenClaim.holds_of_cond 3 Tryz.f3 rfl rfl rfl rfl rfl rfl rfl ⟨rfl, rfl, rfl, rfl, rfl⟩ rfl rfl rfl rfl rfl (by as_aux_lemma => kernel_rfl) Tryz.func3 (by as_aux_lemma => kernel_rfl)
    (of_decide_eq_true (by as_aux_lemma => kernel_rfl)) (by unfold Func.isWrapper; first | (rw [if_pos (by decide +kernel)]; kernel_rfl) | (rw [if_neg (by decide +kernel)]; exact ⟨rfl, rfl⟩))
    (fun os started H enc _ F => by rw [OpenClaim.pre_eq_preRow]; exact lifted os started H enc F)
theorem plain (f : FuncId) (fn : Func) (hf : Tryz.pinned.checked.prog.funcNamed "loop.example/g00172/laws.FnExactReadFiles" = some f) (hfn : Tryz.pinned.checked.prog.funcs[f]? = some fn) :
    true = Tryz.pinned.checked.prog.looks [] ∧ ∀ (j : Nat) t, fn.params[j]? = some t → Tryz.pinned.checked.prog.wantsStandIn t = false := by
  obtain rfl : f = 3 := Option.some.inj ((show Tryz.prog.funcNamed "loop.example/g00172/laws.FnExactReadFiles" = some 3 by kernel_rfl).symm.trans hf) |>.symm
  obtain rfl : fn = Tryz.f3 := (Option.some.inj (Tryz.func3.symm.trans hfn)).symm
  refine ⟨by kernel_rfl, fun j t ht => ?_⟩
  rw [Tryz.params3] at ht
  have hm : t ∈ [22, 9] := by simpa using Array.mem_of_getElem? ht
  have hall : ([22, 9].all fun u => !Tryz.prog.wantsStandIn u) = true := by kernel_rfl
  exact (show Tryz.prog.wantsStandIn t = false by simpa using List.all_eq_true.1 hall t hm)
set_option maxHeartbeats 4000000 in
theorem card : Rows.FnExactReadFilesCardSaid :=
  Claim7.holds_tied_plain_at .later [] _ _ _ _ over (fun _ h => by cases h) (by as_aux_lemma => kernel_rfl) (fun _ h => by cases h) fnExactReadFiles_row_tie rfl ⟨rfl, rfl⟩ (by as_aux_lemma => kernel_rfl) rfl plain (by as_aux_lemma => kernel_rfl)
end Go.Proofs.YtkjgnnhpjcofiaaGreatDoor.fnExactReadFiles
namespace Go.Proofs.YtkjgnnhpjcofiaaGreatDoor
theorem fnExactReadFiles_holds : Rows.FnExactReadFilesCardSaid := fnExactReadFiles.card
end Go.Proofs.YtkjgnnhpjcofiaaGreatDoor
