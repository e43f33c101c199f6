/- Texts of this claim set one behind another by wip/bundle.py: PXf155, PXf112, PXf64. -/
import Derived.Test.YtjibadlbiapcmaaDoorBFormatIndex10
import Derived.Test.YtjibadlbiapcmaaDoorBFormatIndex5
import Derived.Test.YtjibadlbiapcmaaDoorBFormatIndex2
import Derived.Test.YtjibadlbiapcmaaDoorBFormatIndex11
namespace Go.Proofs.YtjibadlbiapcmaaDoor.PX
open Go.RowKit Go.Proofs.YtjibadlbiapcmaaDoorW.PrintWords Go.Proofs.YtjibadlbiapcmaaDoorW.PrintLast Go.Proofs.YtjibadlbiapcmaaDoorW.PrintMore
attribute [local go_sem] max2_int min2_int max_two min_two max_three min_three max_four min_four   -- for this text's walks alone
set_option linter.unusedVariables false
set_option linter.unusedSimpArgs false

/-! ### strconv_FormatInt_155: function 155 -/
def strconv_FormatInt_155.f (a0 : Int) (a1 : Int) : Option ByteArray := if a1 = 10 then (if -9223372036854775808 ≤ a0 then (if a0 ≤ 9223372036854775807 then some ⟨(Lib.itoa a0).toArray⟩ else none) else none) else none
theorem strconv_FormatInt_155.calls (a0 : Int) (a1 : Int) (r : ByteArray) (w : World) (hG : Gt w) (h : strconv_FormatInt_155.f a0 a1 = some r) :
  Calls Tryd.prog 155 #[.int .i64 a0, .int .i64 a1] w fun e w' => e = .returned (.string r) ∧ Below w.heap.size w w' := by
 unfold strconv_FormatInt_155.f at h
 by_cases h1 : a1 = 10
 ·
  subst h1
  rw [if_pos rfl] at h
  by_cases h2 : -9223372036854775808 ≤ a0
  ·
   rw [if_pos h2] at h
   by_cases h3 : a0 ≤ 9223372036854775807
   ·
    rw [if_pos h3] at h
    obtain rfl := Option.some.inj h
    refine (Any.strconv_FormatInt_10 Tryd.laysM173 a0 h2 h3 w hG).mono fun e w' ⟨he, k, os, hw⟩ => ⟨he, ?_⟩
    rw [hw]
    exact grow_below w k os
   ·
    rw [if_neg h3] at h
    cases h
  ·
   rw [if_neg h2] at h
   cases h
 ·
  rw [if_neg h1] at h
  cases h


/-! ### impl_decimal: function 112 -/
def impl_decimal.f (a0 : Int) : Option (ByteArray) := (strconv_FormatInt_155.f a0 10).bind fun t413 => (some t413)
set_option maxHeartbeats 8000000 in
set_option maxRecDepth 100000 in
theorem impl_decimal.calls (a0 : Int) (r : ByteArray) (w : World) (hG : Gt w) (h : impl_decimal.f a0 = some r) :
  Calls Tryd.prog 112 #[.int .i64 a0] w fun e w' => e = .returned (.string r) ∧ Below w.heap.size w w' := by
 have HG := zK hG
 clear hG
 have HB := zK (Below.refl w.heap.size w)
 have H : ((strconv_FormatInt_155.f a0 10).bind fun t413 => (some t413)) = some r := h
 clear h
 replace H := Option.bind_eq_some_iff.mp H
 obtain ⟨t413, A20, H⟩ := H
 replace H : (some t413) = some r := H
 have A2 := zK A20
 clear A20
 obtain rfl := Option.some.inj H
 go_enter Tryd.func112, Tryd.ntmps112
 go_wp2_with (first | ((with_reducible refine gate_callee (f := 155) rfl ?_); refine goesL_ (some 4) rfl rfl Tryd.func155 (by kernel_rfl) rfl #[.int .i64 a0, .int .i64 10] rfl (by (try simp only [List.map_toArray, List.map_cons, List.map_nil]); first | done | rfl | (simp only [List.length_drop, List.length_take]; rfl)) ?_; (with_reducible refine (strconv_FormatInt_155.calls a0 10 t413 _ (Gt.below HG.out (by repeat (first | (with_reducible first | exact HB.out | apply zA | apply zN | apply zD) | exact HB.out))) A2.out).mono ?_); rintro e w3 ⟨rfl, hb⟩; refine ⟨_, rfl, ?_⟩; have n0_ := zK (below_step (by repeat (first | (with_reducible first | exact HB.out | apply zA | apply zN | apply zD) | exact HB.out)) hb); clear HB; have HB := n0_; clear n0_; (try clear hb); (try clear hb2); (try clear hk); (try clear hi)))
 go_ret
 exact ⟨by first | rfl | (simp [errW_none, errW_some] <;> rfl) | (simp [*, errW_none, errW_some] <;> rfl), by repeat (first | (with_reducible first | exact HB.out | apply zA | apply zN | apply zD) | exact HB.out)⟩


/-! ### impl_sumLine: function 64 -/
def impl_sumLine.f (k : Nat) (a0 : ByteArray) : Option (ByteArray) := (impl_DigestOf.f k a0).bind fun t414 => ((impl_decimal.f t414).bind fun t415 => (if 4 + t415.size ≤ 9223372036854775807 then (if ((⟨#[115, 117, 109, 32]⟩ : ByteArray) ++ t415).size + 1 ≤ 9223372036854775807 then (some (((⟨#[115, 117, 109, 32]⟩ : ByteArray) ++ t415) ++ (⟨#[10]⟩ : ByteArray))) else (none)) else (none)))
theorem impl_sumLine.mono : ∀ a0 k, LeO (impl_sumLine.f k a0) (impl_sumLine.f (k + 1) a0) := by
 intro a0 k
 unfold impl_sumLine.f
 repeat' first
   | (with_reducible exact impl_DigestOf.mono _ _)
   | (with_reducible exact LeO.refl _)
   | (with_reducible exact LeO.none _)
   | (with_reducible refine LeO.ite ?_ ?_)
   | (with_reducible refine LeO.bind ?_ (fun _ => ?_))
   | exact impl_DigestOf.mono _ _
   | exact LeO.none _
   | refine LeO.ite ?_ ?_
   | refine LeO.bind ?_ (fun _ => ?_)
set_option maxHeartbeats 8000000 in
set_option maxRecDepth 100000 in
theorem impl_sumLine.calls (k : Nat) (a0 : ByteArray) (r : ByteArray) (w : World) (hG : Gt w) (h : impl_sumLine.f k a0 = some r) :
  Calls Tryd.prog 64 #[.string a0] w fun e w' => e = .returned (.string r) ∧ Below w.heap.size w w' := by
 have HG := zK hG
 clear hG
 have HB := zK (Below.refl w.heap.size w)
 have H : ((impl_DigestOf.f k a0).bind fun t414 => ((impl_decimal.f t414).bind fun t415 => (if 4 + t415.size ≤ 9223372036854775807 then (if ((⟨#[115, 117, 109, 32]⟩ : ByteArray) ++ t415).size + 1 ≤ 9223372036854775807 then (some (((⟨#[115, 117, 109, 32]⟩ : ByteArray) ++ t415) ++ (⟨#[10]⟩ : ByteArray))) else (none)) else (none)))) = some r := h
 clear h
 replace H := Option.bind_eq_some_iff.mp H
 obtain ⟨t414, A20, H⟩ := H
 replace H : ((impl_decimal.f t414).bind fun t415 => (if 4 + t415.size ≤ 9223372036854775807 then (if ((⟨#[115, 117, 109, 32]⟩ : ByteArray) ++ t415).size + 1 ≤ 9223372036854775807 then (some (((⟨#[115, 117, 109, 32]⟩ : ByteArray) ++ t415) ++ (⟨#[10]⟩ : ByteArray))) else (none)) else (none))) = some r := H
 have A2 := zK A20
 clear A20
 replace H := Option.bind_eq_some_iff.mp H
 obtain ⟨t415, A30, H⟩ := H
 replace H : (if 4 + t415.size ≤ 9223372036854775807 then (if ((⟨#[115, 117, 109, 32]⟩ : ByteArray) ++ t415).size + 1 ≤ 9223372036854775807 then (some (((⟨#[115, 117, 109, 32]⟩ : ByteArray) ++ t415) ++ (⟨#[10]⟩ : ByteArray))) else (none)) else (none)) = some r := H
 have A3 := zK A30
 clear A30
 by_cases c4 : 4 + t415.size ≤ 9223372036854775807
 ·
  rw [if_pos c4] at H
  have c4b0 := eq_true c4
  have c4b1 : decide (4 + t415.size ≤ 9223372036854775807) = true := decide_eq_true c4
  try have c4b2 : (9223372036854775807 < 4 + t415.size) = False := eq_false (Nat.not_lt.2 c4)
  by_cases c5 : ((⟨#[115, 117, 109, 32]⟩ : ByteArray) ++ t415).size + 1 ≤ 9223372036854775807
  ·
   rw [if_pos c5] at H
   have c5b0 := eq_true c5
   have c5b1 : decide (((⟨#[115, 117, 109, 32]⟩ : ByteArray) ++ t415).size + 1 ≤ 9223372036854775807) = true := decide_eq_true c5
   try have c5b2 : (9223372036854775807 < ((⟨#[115, 117, 109, 32]⟩ : ByteArray) ++ t415).size + 1) = False := eq_false (Nat.not_lt.2 c5)
   try have c5b3 := c5b2
   try simp only [ByteArray.size_append, X.szLit, List.size_toArray, List.length_cons, List.length_nil, Nat.zero_add, Nat.reduceAdd] at c5b3
   obtain rfl := Option.some.inj H
   go_enter Tryd.func64, Tryd.ntmps64
   go_wp2_with (first | ((with_reducible refine gate_callee (f := 115) rfl ?_); refine goesL_ (some 4) rfl rfl Tryd.func115 (by kernel_rfl) rfl #[.string a0] rfl (by (try simp only [List.map_toArray, List.map_cons, List.map_nil]); first | done | rfl | (simp only [List.length_drop, List.length_take]; rfl)) ?_; (with_reducible refine (impl_DigestOf.calls k a0 t414 _ A2.out).mono ?_); rintro e w' ⟨rfl, ⟨nd, rfl⟩⟩; refine ⟨_, rfl, ?_⟩) | ((with_reducible refine gate_callee (f := 112) rfl ?_); refine goesL_ (some 5) rfl rfl Tryd.func112 (by kernel_rfl) rfl #[.int .i64 t414] rfl (by (try simp only [List.map_toArray, List.map_cons, List.map_nil]); first | done | rfl | (simp only [List.length_drop, List.length_take]; rfl)) ?_; (with_reducible refine (impl_decimal.calls t414 t415 _ (Gt.below HG.out (by repeat (first | (with_reducible first | exact HB.out | apply zA | apply zN | apply zD) | exact HB.out))) A3.out).mono ?_); rintro e w6 ⟨rfl, hb⟩; refine ⟨_, rfl, ?_⟩; have n0_ := zK (below_step (by repeat (first | (with_reducible first | exact HB.out | apply zA | apply zN | apply zD) | exact HB.out)) hb); clear HB; have HB := n0_; clear n0_; (try clear hb); (try clear hb2); (try clear hk); (try clear hi)))
   go_ret
   exact ⟨by first | rfl | (simp [errW_none, errW_some] <;> rfl) | (simp [*, errW_none, errW_some] <;> rfl), by repeat (first | (with_reducible first | exact HB.out | apply zA | apply zN | apply zD) | exact HB.out)⟩
  ·
   rw [if_neg c5] at H
   exact absurd H (by simp)
 ·
  rw [if_neg c4] at H
  exact absurd H (by simp)

end Go.Proofs.YtjibadlbiapcmaaDoor.PX
