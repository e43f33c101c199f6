/- FnExactInDir: the program's InDir answers what the reference's InDir answers, for all arguments. Conditions: none. -/
import Derived.Test.YtfemibdffapljaaRows
import Derived.WalkKit
import Derived.ProofKit
import Derived.OpenShut
import Derived.ShutString
import Derived.ChangeOld
import Derived.Below
import Derived.SizedLaws
import Derived.Lib.Hide
namespace Go.Proofs.Ytfemibdffapljaa.inDir
set_option linter.unusedVariables false
open Go.ChangeShapes Go.WideShapes Go.ChangeAt Go.RowKit
open Go.ChangeMaps (open_string shut_string)

theorem own : ownKnob Try.prog.godebug = none := by kernel_rfl

theorem spec_long (a b : ByteArray) (w : World) (ha : a.size ≤ 140737488351232) (hb : b.size ≤ 140737488351232) (h : b.size + 1 < a.size) :
    Calls Try.prog 7 #[.string a, .string b] w fun e w' => e = .returned (.bool ((a.extract 0 (b.size + 1)).toList == (b ++ (⟨#[47]⟩ : ByteArray)).toList)) ∧ w = w' := by
  have h2 : (b.size : Int) + 1 < (a.size : Int) := by omega
  have h3 : (b.size : Int) + 1 ≤ (a.size : Int) := by omega
  have h4 : (0 : Int) ≤ (b.size : Int) + 1 := by omega
  go_enter Try.func7, Try.ntmps7
  go_wp2
  go_ret
  exact ⟨rfl, rfl⟩

theorem spec_short (a b : ByteArray) (w : World) (ha : a.size ≤ 140737488351232) (hb : b.size ≤ 140737488351232) (h : a.size ≤ b.size + 1) :
    Calls Try.prog 7 #[.string a, .string b] w fun e w' => e = .returned (.bool false) ∧ w = w' := by
  have h2 : (a.size : Int) ≤ (b.size : Int) + 1 := by omega
  go_enter Try.func7, Try.ntmps7
  go_wp2
  go_ret
  exact ⟨rfl, rfl⟩

theorem impl_long (a b : ByteArray) (w : World) (ha : a.size ≤ 140737488351232) (hb : b.size ≤ 140737488351232) (h : b.size + 1 < a.size) :
    Calls Try.prog 8 #[.string a, .string b] w fun e w' => e = .returned (.bool ((a.extract 0 (b.size + 1)).toList == (b ++ (⟨#[47]⟩ : ByteArray)).toList)) ∧ w = w' := by
  have h2 : (b.size : Int) + 1 < (a.size : Int) := by omega
  have h3 : (b.size : Int) + 1 ≤ (a.size : Int) := by omega
  have h4 : (0 : Int) ≤ (b.size : Int) + 1 := by omega
  go_enter Try.func8, Try.ntmps8
  go_wp2
  go_ret
  exact ⟨rfl, rfl⟩

theorem impl_short (a b : ByteArray) (w : World) (ha : a.size ≤ 140737488351232) (hb : b.size ≤ 140737488351232) (h : a.size ≤ b.size + 1) :
    Calls Try.prog 8 #[.string a, .string b] w fun e w' => e = .returned (.bool false) ∧ w = w' := by
  have h2 : (a.size : Int) ≤ (b.size : Int) + 1 := by omega
  go_enter Try.func8, Try.ntmps8
  go_wp2
  go_ret
  exact ⟨rfl, rfl⟩

/-- Both answer r. -/
theorem both (a b : ByteArray) (ha : a.size ≤ 140737488351232) (hb : b.size ≤ 140737488351232) : ∃ r : Bool, (∀ w : World, Calls Try.prog 7 #[.string a, .string b] w fun e w' => e = .returned (.bool r) ∧ w = w') ∧
    (∀ w : World, Calls Try.prog 8 #[.string a, .string b] w fun e w' => e = .returned (.bool r) ∧ w = w') := by
  rcases Nat.lt_or_ge (b.size + 1) a.size with h | h
  · exact ⟨_, fun w => spec_long a b w ha hb h, fun w => impl_long a b w ha hb h⟩
  · exact ⟨_, fun w => spec_short a b w ha hb h, fun w => impl_short a b w ha hb h⟩

theorem law (a b : ByteArray) (w : World) (ha : a.size ≤ 140737488351232) (hb : b.size ≤ 140737488351232) :
    Calls Try.prog 3 #[.string a, .string b] w fun e w' => e = .returned (.bool true) ∧ w = w' := by
  obtain ⟨r, hs, hi⟩ := both a b ha hb
  have HS := Lib.hid hs
  have HI := Lib.hid hi
  clear hs hi
  by_cases h1 : (1048576 : Int) < a.size
  · go_enter Try.func3, Try.ntmps3
    go_wp2_with fail
    go_ret
    exact ⟨rfl, rfl⟩
  · by_cases h2 : (1048576 : Int) < b.size
    · go_enter Try.func3, Try.ntmps3
      go_wp2_with fail
      go_ret
      exact ⟨rfl, rfl⟩
    · go_enter Try.func3, Try.ntmps3
      cases r <;>
        (go_wp2_with (first | (go_at_call 7; refine (HS.out _).mono ?_; rintro e w' ⟨rfl, rfl⟩) | (go_at_call 8; refine (HI.out _).mono ?_; rintro e w' ⟨rfl, rfl⟩))
         go_ret
         exact ⟨rfl, rfl⟩)

set_option maxRecDepth 100000 in
theorem lifted (os : Os) (started : os.Started) (H : Type) (enc : TypeId × Value → H) :
    ReturnsInHanded {} Try.checked os 3 .any (Rows.fnExactInDirSpec.pre6 enc Try.prog Try.f3 Rows.fnExactInDirRow.domain false) (Rows.fnExactInDirSpec.post enc Try.prog Try.f3 false true false false) := by
  refine returnsInHanded_of_change_sized (C := Try.checked) own started (by kernel_rfl) Try.func3
    (ChangeSpec.witness6 (enc := enc) (C := Try.checked) false ⟨#[], #[.string ByteArray.empty, .string ByteArray.empty], []⟩ 8 (by kernel_rfl) (by kernel_rfl) (by kernel_rfl) (by kernel_rfl)) ?_
  intro W base args ds gs before hval0 hW hcnd hsz0 _
  have hsz : (DataW.weightsEach Try.prog (Try.f3.params.toList ++ Rows.fnExactInDirSpec.plain.varTypes Try.prog) (ds ++ gs)).all (· ≤ reachBytes) = true := hsz0
  have hval : ∀ (j : Nat) t v, Try.f3.params[j]? = some t → args[j]? = some v → Value.okWide Try.prog W .any base t v := hval0
  have hW' := hW
  obtain ⟨p, q, hA0, hV, rfl, hfz, hnd⟩ := hW
  have hA : DataW.TrodAll enc Try.prog W 0 (fun _ => true) true Try.f3.params.toList args.toList ds p := hA0
  rw [Try.params3] at hA hval hsz
  obtain ⟨v0, vs0, d0, ds0, p0, q0, hargs, rfl, rfl, h0, r0⟩ := trodAll_cons hA
  obtain ⟨v1, vs1, d1, ds1, p1, q1, rfl, rfl, rfl, h1, r1⟩ := trodAll_cons r0
  obtain ⟨rfl, rfl, rfl⟩ := trodAll_nil r1
  obtain rfl : args = #[v0, v1] := by cases args; simp_all
  obtain ⟨rfl, rfl⟩ := trodVars_none hV
  obtain ⟨a0, rfl, rfl, rfl, y0⟩ := open_string Try.underlying9 (hval 0 9 v0 rfl rfl) h0
  have w0 : a0.size ≤ 140737488351232 := by
    have z := sized_string hsz (j := 0) (t := 9) rfl rfl
    rw [Array.length_toList] at z
    exact z
  obtain ⟨a1, rfl, rfl, rfl, y1⟩ := open_string Try.underlying9 (hval 1 9 v1 rfl rfl) h1
  have w1 : a1.size ≤ 140737488351232 := by
    have z := sized_string hsz (j := 1) (t := 9) rfl rfl
    rw [Array.length_toList] at z
    exact z
  clear hA0 hval0 hsz0 hsz
  refine (law a0 a1 W w0 w1).mono fun e W' ⟨he, hw⟩ => ?_
  subst he
  subst hw
  exact ⟨_, rfl, _, _, _, [], _, [], hW', trodAll_mk1 (shut_bool Try.underlying4 _), (trodAll_cons_mk (shut_string Try.underlying9 y0) (trodAll_cons_mk (shut_string Try.underlying9 y1) trodAll_mk0)), rfl, (Below.refl _ _).frame _, fun h => by cases h⟩

theorem over : Rows.fnExactInDirRow.holds Try.pinned (OpenSpec.ofChange Rows.fnExactInDirSpec) :=
  OpenClaim.holds_of_wide 3 Try.f3 rfl rfl rfl rfl rfl rfl rfl ⟨rfl, rfl, rfl, rfl, rfl⟩ rfl rfl rfl rfl rfl (by kernel_rfl) Try.func3 (by kernel_rfl)
    (of_decide_eq_true (by kernel_rfl)) (by unfold Func.isWrapper; first | (rw [if_pos (by decide +kernel)]; kernel_rfl) | (rw [if_neg (by decide +kernel)]; exact ⟨rfl, rfl⟩))
    (fun os started H enc _ => lifted os started H enc)
end Go.Proofs.Ytfemibdffapljaa.inDir
namespace Go.Proofs.Ytfemibdffapljaa
theorem inDir_holds : Rows.FnExactInDirSaid := inDir.over
end Go.Proofs.Ytfemibdffapljaa
