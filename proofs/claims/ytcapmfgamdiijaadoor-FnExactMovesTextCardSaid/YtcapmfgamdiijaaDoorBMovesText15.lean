/- Texts of this claim set one behind another by wip/bundle.py: PXf151, PXf100. -/
import Derived.Test.YtcapmfgamdiijaaDoorBMovesText10
import Derived.Test.YtcapmfgamdiijaaDoorBMovesText5
namespace Go.Proofs.YtcapmfgamdiijaaDoor.PX
open Go.RowKit Go.Proofs.YtcapmfgamdiijaaDoorW.PrintWords Go.Proofs.YtcapmfgamdiijaaDoorW.PrintLast Go.Proofs.YtcapmfgamdiijaaDoorW.PrintMore
attribute [local go_sem] max2_int min2_int max_two min_two max_three min_three max_four min_four   -- for this text's walks alone
set_option linter.unusedVariables false
set_option linter.unusedSimpArgs false

/-! ### strconv_FormatInt_151: function 151 -/
def strconv_FormatInt_151.f (a0 : Int) (a1 : Int) : Option ByteArray := if a1 = 10 then (if -9223372036854775808 ≤ a0 then (if a0 ≤ 9223372036854775807 then some ⟨(Lib.itoa a0).toArray⟩ else none) else none) else none
theorem strconv_FormatInt_151.calls (a0 : Int) (a1 : Int) (r : ByteArray) (w : World) (hG : Gt w) (h : strconv_FormatInt_151.f a0 a1 = some r) :
  Calls Tryd.prog 151 #[.int .i64 a0, .int .i64 a1] w fun e w' => e = .returned (.string r) ∧ Below w.heap.size w w' := by
 unfold strconv_FormatInt_151.f at h
 by_cases h1 : a1 = 10
 ·
  subst h1
  rw [if_pos rfl] at h
  by_cases h2 : -9223372036854775808 ≤ a0
  ·
   rw [if_pos h2] at h
   by_cases h3 : a0 ≤ 9223372036854775807
   ·
    rw [if_pos h3] at h
    obtain rfl := Option.some.inj h
    refine (Any.strconv_FormatInt_10 Tryd.laysM173 a0 h2 h3 w hG).mono fun e w' ⟨he, k, os, hw⟩ => ⟨he, ?_⟩
    rw [hw]
    exact grow_below w k os
   ·
    rw [if_neg h3] at h
    cases h
  ·
   rw [if_neg h2] at h
   cases h
 ·
  rw [if_neg h1] at h
  cases h

end Go.Proofs.YtcapmfgamdiijaaDoor.PX

namespace Go.Proofs.YtcapmfgamdiijaaDoor.PX
open Go.RowKit Go.Proofs.YtcapmfgamdiijaaDoorW.PrintWords Go.Proofs.YtcapmfgamdiijaaDoorW.PrintLast Go.Proofs.YtcapmfgamdiijaaDoorW.PrintMore
attribute [local go_sem] max2_int min2_int max_two min_two max_three min_three max_four min_four   -- for this text's walks alone
set_option linter.unusedVariables false
set_option linter.unusedSimpArgs false

/-! ### impl_decimal: function 100 -/
def impl_decimal.f (a0 : Int) : Option (ByteArray) := (strconv_FormatInt_151.f a0 10).bind fun t293 => (some t293)
set_option maxHeartbeats 8000000 in
set_option maxRecDepth 100000 in
theorem impl_decimal.calls (a0 : Int) (r : ByteArray) (w : World) (hG : Gt w) (h : impl_decimal.f a0 = some r) :
  Calls Tryd.prog 100 #[.int .i64 a0] w fun e w' => e = .returned (.string r) ∧ Below w.heap.size w w' := by
 have HG := Aside0.mk hG
 clear hG
 have HB := Aside0.mk (Below.refl w.heap.size w)
 have H : ((strconv_FormatInt_151.f a0 10).bind fun t293 => (some t293)) = some r := h
 clear h
 replace H := Option.bind_eq_some_iff.mp H
 obtain ⟨t293, A20, H⟩ := H
 replace H : (some t293) = some r := H
 have A2 := Aside0.mk A20
 clear A20
 obtain rfl := Option.some.inj H
 go_enter Tryd.func100, Tryd.ntmps100
 go_wp2_with (first | ((with_reducible refine gate_callee (f := 151) rfl ?_); refine goesL_ (some 4) rfl rfl Tryd.func151 (by kernel_rfl) rfl #[.int .i64 a0, .int .i64 10] rfl (by (try simp only [List.map_toArray, List.map_cons, List.map_nil]); first | done | rfl | (simp only [List.length_drop, List.length_take]; rfl)) ?_; (with_reducible refine (strconv_FormatInt_151.calls a0 10 t293 _ (Gt.below HG.out (by repeat (first | (with_reducible first | exact HB.out | apply below_alloc | apply pw_below_drewN | apply below_drew1) | exact HB.out))) A2.out).mono ?_); rintro e w3 ⟨rfl, hb⟩; refine ⟨_, rfl, ?_⟩; have n0_ := Aside0.mk (below_step (by repeat (first | (with_reducible first | exact HB.out | apply below_alloc | apply pw_below_drewN | apply below_drew1) | exact HB.out)) hb); clear HB; have HB := n0_; clear n0_; (try clear hb); (try clear hb2); (try clear hk); (try clear hi)))
 go_ret
 exact ⟨by first | rfl | (simp [errW_none, errW_some] <;> rfl) | (simp [*, errW_none, errW_some] <;> rfl), by repeat (first | (with_reducible first | exact HB.out | apply below_alloc | apply pw_below_drewN | apply below_drew1) | exact HB.out)⟩

end Go.Proofs.YtcapmfgamdiijaaDoor.PX
