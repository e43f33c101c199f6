/- Texts of this claim set one behind another by wip/bundle.py: PXf193, PXf194, PXf141, PXf90, XIds. -/
import Derived.Test.YtkjgnnhpjcofiaaGreatDoorBReadFiles14
import Derived.Test.YtkjgnnhpjcofiaaGreatDoorBReadFiles7
import Derived.Test.YtkjgnnhpjcofiaaGreatDoorBReadFiles9
namespace Go.Proofs.YtkjgnnhpjcofiaaGreatDoor.PX
open Go.RowKit Go.Proofs.YtkjgnnhpjcofiaaGreatDoorW.PrintWords Go.Proofs.YtkjgnnhpjcofiaaGreatDoorW.PrintLast Go.Proofs.YtkjgnnhpjcofiaaGreatDoorW.PrintMore
attribute [local go_sem] max2_int min2_int max_two min_two max_three min_three max_four min_four   -- for this text's walks alone
set_option linter.unusedVariables false
set_option linter.unusedSimpArgs false
def strings_IndexByte.f (a0 : ByteArray) (a1 : Int) : Option (Int) := some (Lib.indexByte a0.data.toList a1.toNat.toUInt8)
theorem strings_IndexByte.calls (a0 : ByteArray) (a1 : Int) (r : Int) (w : World) (h : strings_IndexByte.f a0 a1 = some r) :
  Calls Tryz.prog 193 #[.string a0, .int .u8 a1] w fun e w' => e = .returned (.int .i64 r) ∧ Drawn0 w w' := by
 obtain rfl := Option.some.inj h
 exact (Any.strings_IndexByte Tryz.lays137 a0 a1 w).mono fun e w' ⟨he, hw⟩ => ⟨he, hw ▸ Drawn0.refl _⟩
def strings_Trim.f (a0 : ByteArray) (a1 : ByteArray) : Option (ByteArray) := if a0.size ≤ 9223372036854775807 then (if a1.size < 4294967281 then (if a1.data.toList.all (fun b => decide (b.toNat < 128)) = true then some ⟨(Lib.trimS a0.data.toList a1.data.toList).toArray⟩ else none) else none) else none
theorem strings_Trim.calls (a0 : ByteArray) (a1 : ByteArray) (r : ByteArray) (w : World) (h : strings_Trim.f a0 a1 = some r) :
  Calls Tryz.prog 194 #[.string a0, .string a1] w fun e w' => e = .returned (.string r) ∧ Below w.heap.size w w' := by
 unfold strings_Trim.f at h
 by_cases h1 : a0.size ≤ 9223372036854775807
 ·
  rw [if_pos h1] at h
  by_cases h2 : a1.size < 4294967281
  ·
   rw [if_pos h2] at h
   by_cases h3 : a1.data.toList.all (fun b => decide (b.toNat < 128)) = true
   ·
    rw [if_pos h3] at h
    obtain rfl := Option.some.inj h
    exact Any.strings_Trim_ascii Tryz.lays160 (fun w => by kernel_rfl) zq3 a0 a1 w h1 h2 (fun j b hb => zX (List.all_eq_true.1 h3 b (List.mem_of_getElem? hb)))
   rw [if_neg h3] at h
   cases h
  rw [if_neg h2] at h
  cases h
 rw [if_neg h1] at h
 cases h
def impl_IsId.f (a0 : ByteArray) : Option (Bool) := if (a0.size : Int) = 5 then (if 0 < (a0.size : Int) then ((strings_IndexByte.f (⟨#[98, 116, 99]⟩ : ByteArray) (bt a0 0)).bind fun t246 => (if t246 < 0 then (some false) else (if 1 ≤ (a0.size : Int) then ((strings_Trim.f (a0.extract 1 a0.size) (⟨#[48, 49, 50, 51, 52, 53, 54, 55, 56, 57, 97, 98, 99, 100, 101, 102]⟩ : ByteArray)).bind fun t247 => (some (t247.toList == ([] : List UInt8)))) else (none)))) else (none)) else (some false)
set_option maxHeartbeats 8000000 in
set_option maxRecDepth 100000 in
theorem impl_IsId.calls (a0 : ByteArray) (r : Bool) (w : World) (h : impl_IsId.f a0 = some r) :
  Calls Tryz.prog 141 #[.string a0] w fun e w' => e = .returned (.bool r) ∧ Below w.heap.size w w' := by
 have HB := zK (Below.refl w.heap.size w)
 have H : (if (a0.size : Int) = 5 then (if 0 < (a0.size : Int) then ((strings_IndexByte.f (⟨#[98, 116, 99]⟩ : ByteArray) (bt a0 0)).bind fun t246 => (if t246 < 0 then (some false) else (if 1 ≤ (a0.size : Int) then ((strings_Trim.f (a0.extract 1 a0.size) (⟨#[48, 49, 50, 51, 52, 53, 54, 55, 56, 57, 97, 98, 99, 100, 101, 102]⟩ : ByteArray)).bind fun t247 => (some (t247.toList == ([] : List UInt8)))) else (none)))) else (none)) else (some false)) = some r := h
 clear h
 by_cases c2 : (a0.size : Int) = 5
 ·
  rw [if_pos c2] at H
  have c2b0 : ((a0.size : Int) == 5) = true := beq_iff_eq.mpr c2
  have c2b1 : ((a0.size : Int) != 5) = false := bne_eq_false_iff_eq.mpr c2
  clear c2
  by_cases c3 : 0 < (a0.size : Int)
  ·
   rw [if_pos c3] at H
   have c3b0 : decide (0 < (a0.size : Int)) = true := decide_eq_true c3
   have c3b1 : decide (0 < a0.size) = true := decide_eq_true zq7
   clear c3
   replace H := Option.bind_eq_some_iff.mp H
   obtain ⟨t246, A50, H⟩ := H
   replace H : (if t246 < 0 then (some false) else (if 1 ≤ (a0.size : Int) then ((strings_Trim.f (a0.extract 1 a0.size) (⟨#[48, 49, 50, 51, 52, 53, 54, 55, 56, 57, 97, 98, 99, 100, 101, 102]⟩ : ByteArray)).bind fun t247 => (some (t247.toList == ([] : List UInt8)))) else (none))) = some r := H
   have A5 := zK A50
   clear A50
   by_cases c6 : t246 < 0
   ·
    rw [if_pos c6] at H
    have c6b0 : decide (t246 < 0) = true := decide_eq_true c6
    clear c6
    obtain rfl := Option.some.inj H
    have p4 : 0 ≤ (0 : Int) := zq7
    have q4 : 0 < a0.size := (by have : (0 : Int) < (a0.size : Int) := zX zq2; omega)
    have hx4 : ∀ h : 0 < a0.size, ((a0[0]'h).toNat : Int) = bt a0 0 := bt_at a0 0
    clear p4
    have qi4 : (0 < (a0.size : Int)) = True := eq_true (zX zq2)
    replace q4 := eq_true q4
    go_enter Tryz.func141, Tryz.ntmps141
    go_wp2_with (first | (go_at_call 193; (with_reducible refine (strings_IndexByte.calls (⟨#[98, 116, 99]⟩ : ByteArray) (bt a0 0) t246 _ A5.out).mono ?_); rintro e w' ⟨rfl, ⟨nd, rfl⟩⟩))
    go_ret
    exact ⟨zq5, zq0⟩
   rw [if_neg c6] at H
   have c6b0 : decide (t246 < 0) = false := decide_eq_false c6
   clear c6
   by_cases c7 : 1 ≤ (a0.size : Int)
   ·
    rw [if_pos c7] at H
    have c7b0 := eq_true c7
    have c7b1 : decide (1 ≤ (a0.size : Int)) = true := decide_eq_true c7
    clear c7
    replace H := Option.bind_eq_some_iff.mp H
    obtain ⟨t247, A80, H⟩ := H
    replace H : (some (t247.toList == ([] : List UInt8))) = some r := H
    have A8 := zK A80
    clear A80
    obtain rfl := Option.some.inj H
    have p4 : 0 ≤ (0 : Int) := zq7
    have q4 : 0 < a0.size := (by have : (0 : Int) < (a0.size : Int) := zX zq2; omega)
    have hx4 : ∀ h : 0 < a0.size, ((a0[0]'h).toNat : Int) = bt a0 0 := bt_at a0 0
    clear p4
    have qi4 : (0 < (a0.size : Int)) = True := eq_true (zX zq2)
    replace q4 := eq_true q4
    go_enter Tryz.func141, Tryz.ntmps141
    go_wp2_with (first | (go_at_call 193; (with_reducible refine (strings_IndexByte.calls (⟨#[98, 116, 99]⟩ : ByteArray) (bt a0 0) t246 _ A5.out).mono ?_); rintro e w' ⟨rfl, ⟨nd, rfl⟩⟩) | ((with_reducible refine gate_callee (f := 194) rfl ?_); refine goesL_ (some 14) rfl rfl Tryz.func194 zq3 rfl #[.string (a0.extract 1 a0.size), .string (⟨#[48, 49, 50, 51, 52, 53, 54, 55, 56, 57, 97, 98, 99, 100, 101, 102]⟩ : ByteArray)] rfl zq1 ?_; (with_reducible refine (strings_Trim.calls (a0.extract 1 a0.size) (⟨#[48, 49, 50, 51, 52, 53, 54, 55, 56, 57, 97, 98, 99, 100, 101, 102]⟩ : ByteArray) t247 _ A8.out).mono ?_); rintro e w9 ⟨rfl, hb⟩; refine ⟨_, rfl, ?_⟩; have n0_ := zK (below_step zq0 hb); clear HB; have HB := n0_; clear n0_; (try clear hb); (try clear hb2); (try clear hk); (try clear hi)))
    go_ret
    exact ⟨zq5, zq0⟩
   rw [if_neg c7] at H
   exact absurd H zq16
  rw [if_neg c3] at H
  exact absurd H zq16
 rw [if_neg c2] at H
 have c2b0 : ((a0.size : Int) == 5) = false := beq_eq_false_iff_ne.mpr c2
 have c2b1 : ((a0.size : Int) != 5) = true := bne_iff_ne.mpr c2
 obtain rfl := Option.some.inj H
 go_enter Tryz.func141, Tryz.ntmps141
 go_wp2
 go_ret
 exact ⟨zq5, zq0⟩
def impl_isIdOf.f (a0 : Int) (a1 : ByteArray) : Option (Bool) := (impl_IsId.f a1).bind fun t248 => (if t248 = true then (if 0 < (a1.size : Int) then (if 0 ≤ (wrap64 (a0 - 1)) then (if (wrap64 (a0 - 1)) < 3 then (some ((bt a1 0) == (bt (⟨#[98, 116, 99]⟩ : ByteArray) (wrap64 (a0 - 1))))) else (none)) else (none)) else (none)) else (some false))
def impl_isIdOf.T1 : Bool × List (List Nat × List Nat) := (true, [([], []), ([0], [0]), ([1, 1], [1]), ([2], [2]), ([3, 2], [2, 3]), ([2], [2]), ([5, 2], [2, 5]), ([6, 2], [2, 6]), ([4, 7, 2], [2, 4, 7]), ([2, 8], [2, 8]), ([9, 2, 0, 1, 2, 3, 4, 5, 6, 7, 8, 9], [9])])
def impl_isIdOf.B1 : List Nat := [0, 1, 3, 7, 15, 7, 39, 103, 255, 511, 1023]
theorem impl_isIdOf.tab1 : rtab .any (opsOf Tryz.f90 1) = impl_isIdOf.T1 := by kernel_rfl
theorem impl_isIdOf.bits1 : waitsOk impl_isIdOf.T1.2 impl_isIdOf.B1 = true := by kernel_rfl
set_option maxHeartbeats 8000000 in
set_option maxRecDepth 100000 in
theorem impl_isIdOf.calls (a0 : Int) (a1 : ByteArray) (r : Bool) (w : World) (h : impl_isIdOf.f a0 a1 = some r) :
  Calls Tryz.prog 90 #[.int .i64 a0, .string a1] w fun e w' => e = .returned (.bool r) ∧ Below w.heap.size w w' := by
 have HB := zK (Below.refl w.heap.size w)
 have H : ((impl_IsId.f a1).bind fun t248 => (if t248 = true then (if 0 < (a1.size : Int) then (if 0 ≤ (wrap64 (a0 - 1)) then (if (wrap64 (a0 - 1)) < 3 then (some ((bt a1 0) == (bt (⟨#[98, 116, 99]⟩ : ByteArray) (wrap64 (a0 - 1))))) else (none)) else (none)) else (none)) else (some false))) = some r := h
 clear h
 replace H := Option.bind_eq_some_iff.mp H
 obtain ⟨t248, A30, H⟩ := H
 replace H : (if t248 = true then (if 0 < (a1.size : Int) then (if 0 ≤ (wrap64 (a0 - 1)) then (if (wrap64 (a0 - 1)) < 3 then (some ((bt a1 0) == (bt (⟨#[98, 116, 99]⟩ : ByteArray) (wrap64 (a0 - 1))))) else (none)) else (none)) else (none)) else (some false)) = some r := H
 have A3 := zK A30
 clear A30
 by_cases c4 : t248 = true
 ·
  subst c4
  have H1 : (if 0 < (a1.size : Int) then (if 0 ≤ (wrap64 (a0 - 1)) then (if (wrap64 (a0 - 1)) < 3 then (some ((bt a1 0) == (bt (⟨#[98, 116, 99]⟩ : ByteArray) (wrap64 (a0 - 1))))) else (none)) else (none)) else (none)) = some r := by rw [if_pos rfl] at H; exact H
  clear H
  have H := H1
  clear H1
  by_cases c5 : 0 < (a1.size : Int)
  ·
   rw [if_pos c5] at H
   have c5b0 : decide (0 < (a1.size : Int)) = true := decide_eq_true c5
   have c5b1 : decide (0 < a1.size) = true := decide_eq_true zq7
   clear c5
   obtain ⟨ji7, hji7⟩ : ∃ j_ : Int, (wrap64 (a0 - 1)) = j_ := ⟨_, rfl⟩
   replace H : (if 0 ≤ (ji7) then (if (ji7) < 3 then (some ((bt a1 0) == (bt (⟨#[98, 116, 99]⟩ : ByteArray) (ji7)))) else (none)) else (none)) = some r := by first | (rw [hji7] at H; exact H) | (simp only [hji7] at H ⊢; exact H)
   (try rw [hji7] at A3)
   have hji7w : (IntKind.i64.wrap (a0 - 1)) = ji7 := (i64_w _).trans hji7
   by_cases c8 : 0 ≤ (ji7)
   ·
    rw [if_pos c8] at H
    have c8b0 : decide (0 ≤ (ji7)) = true := decide_eq_true c8
    clear c8
    by_cases c9 : (ji7) < 3
    ·
     rw [if_pos c9] at H
     have c9b0 : decide ((ji7) < 3) = true := decide_eq_true c9
     clear c9
     obtain rfl := Option.some.inj H
     go_enter Tryz.func90, Tryz.ntmps90
     try go_wp2
     have n0_ := zK (zD HB.out)
     clear HB
     have HB := n0_
     clear n0_
     refine start_ (n := 11) (S := fun w' => True) (ds := []) #[zF,zF,zF,zF,zF,zF,zF,zF,zF,zF,zF] zq3 rfl rfl trivial (fun hHeld => ?_); refine with_tabW impl_isIdOf.tab1 impl_isIdOf.bits1 (fun HT_ HW_ => ?_)
     generalize w.drew = w11 at HB hHeld ⊢
     refine pure_ (i := 0) (N := some 5) (v := ?_) (a' := ?_) #[zB,zF,zF,zF,zF,zF,zF,zF,zF,zF,zF] rfl rfl (any_of HT_.out zq3) (fun _ _ _ h => h) (Or.inl ⟨by rfl, ?_⟩) ?_ ?_
     rotate_left
     ·
      intro w'
      go_simp
      with_reducible rfl
     rotate_left
     ·
      simp only [Act.put, zS, zT, zU, i64_w, i32_w]
      rfl
     refine one_ (i := 1) (N := some 6) #[zB,zB,zF,zF,zF,zF,zF,zF,zF,zF,zF] rfl rfl (one_of HT_.out zq3) zq13 (fun K hK => ?_)
     refine goes_ Tryz.func141 zq3 rfl #[.string a1] zq28 rfl rfl zq1 ?_
     with_reducible refine (impl_IsId.calls a1 true _ A3.out).mono ?_
     rintro e w12 ⟨rfl, hb⟩
     refine ⟨_, rfl, ?_⟩
     have n0_ := zK (below_step zq0 hb)
     clear HB
     have HB := n0_
     clear n0_
     (try clear hb)
     (try clear hb2)
     (try clear hk)
     (try clear hi)
     have p6 : 0 ≤ (0 : Int) := zq7
     have q6 : 0 < a1.size := (by have : (0 : Int) < (a1.size : Int) := zX zq2; omega)
     have hx6 : ∀ h : 0 < a1.size, ((a1[0]'h).toNat : Int) = bt a1 0 := bt_at a1 0
     clear p6
     have qi6 : (0 < (a1.size : Int)) = True := eq_true (zX zq2)
     replace q6 := eq_true q6
     have p10 : 0 ≤ ((ji7) : Int) := zX zq2
     have q10 : (ji7) < (3 : Int) := zX zq2
     have hx10 := bt_at (⟨#[98, 116, 99]⟩ : ByteArray) (ji7)
     replace p10 := eq_true p10
     replace q10 := eq_true q10
     refine hK.out _ _ trivial (fun hHeld => ?_)
     clear hK K
     refine norm_ (a' := ?_) ?_ ?_
     rotate_left
     ·
      show Act.put _ (some 6) _ = _
      simp only [Act.put, zS, zT, zU, i64_w, i32_w]
      rfl
     refine pure_ (i := 2) (N := some 7) (v := ?_) (a' := ?_) #[zB,zB,zB,zF,zF,zF,zF,zF,zF,zF,zF] rfl rfl (any_of HT_.out zq3) (fun _ _ _ h => h) (Or.inl ⟨by rfl, ?_⟩) ?_ ?_
     rotate_left
     ·
      intro w'
      go_simp
      with_reducible rfl
     rotate_left
     ·
      simp only [Act.put, zS, zT, zU, i64_w, i32_w]
      rfl
     refine pure_ (i := 3) (N := some 8) (v := ?_) (a' := ?_) #[zB,zB,zB,zB,zF,zF,zF,zF,zF,zF,zF] rfl rfl (any_of HT_.out zq3) (fun _ _ _ h => h) (Or.inl ⟨by rfl, ?_⟩) ?_ ?_
     rotate_left
     ·
      intro w'
      go_simp
      with_reducible rfl
     rotate_left
     ·
      simp only [Act.put, zS, zT, zU, i64_w, i32_w]
      rfl
     refine pure_ (i := 5) (N := some 10) (v := ?_) (a' := ?_) #[zB,zB,zB,zB,zF,zB,zF,zF,zF,zF,zF] rfl rfl (any_of HT_.out zq3) (fun _ _ _ h => h) (Or.inl ⟨by rfl, ?_⟩) ?_ ?_
     rotate_left
     ·
      intro w'
      go_simp
      with_reducible rfl
     rotate_left
     ·
      simp only [Act.put, zS, zT, zU, i64_w, i32_w]
      rfl
     refine pure_ (i := 6) (N := some 11) (v := ?_) (a' := ?_) #[zB,zB,zB,zB,zF,zB,zB,zF,zF,zF,zF] rfl rfl (any_of HT_.out zq3) (fun _ _ _ h => h) (Or.inl ⟨by rfl, ?_⟩) ?_ ?_
     rotate_left
     ·
      intro w'
      go_simp
      with_reducible rfl
     rotate_left
     ·
      simp only [Act.put, zS, zT, zU, i64_w, i32_w]
      rfl
     refine take_ (i := 4) (N := some 9) (v := ?_) (a' := ?_) #[zB,zB,zB,zB,zB,zB,zB,zF,zF,zF,zF] rfl rfl (take_ofW HT_.out HW_.out zq3) (fun _ _ _ h => h) (Or.inl ⟨by rfl, ?_⟩) hHeld ?_ ?_
     rotate_left
     ·
      intro w' _
      go_simp
      with_reducible rfl
     rotate_left
     ·
      simp only [Act.put, zS, zT, zU, i64_w, i32_w]
      rfl
     refine take_ (i := 7) (N := some 12) (v := ?_) (a' := ?_) #[zB,zB,zB,zB,zB,zB,zB,zB,zF,zF,zF] rfl rfl (take_ofW HT_.out HW_.out zq3) (fun _ _ _ h => h) (Or.inl ⟨by rfl, ?_⟩) hHeld ?_ ?_
     rotate_left
     ·
      intro w' _
      go_simp
      with_reducible rfl
     rotate_left
     ·
      simp only [Act.put, zS, zT, zU, i64_w, i32_w]
      rfl
     refine pure_ (i := 8) (N := some 13) (v := ?_) (a' := ?_) #[zB,zB,zB,zB,zB,zB,zB,zB,zB,zF,zF] rfl rfl (any_of HT_.out zq3) (fun _ _ _ h => h) (Or.inl ⟨by rfl, ?_⟩) ?_ ?_
     rotate_left
     ·
      intro w'
      go_simp
      with_reducible rfl
     rotate_left
     ·
      simp only [Act.put, zS, zT, zU, i64_w, i32_w]
      rfl
     refine pure_ (i := 9) (N := some 14) (v := ?_) (a' := ?_) #[zB,zB,zB,zB,zB,zB,zB,zB,zB,zB,zF] rfl rfl (any_of HT_.out zq3) (fun _ _ _ h => h) (Or.inl ⟨by rfl, ?_⟩) ?_ ?_
     rotate_left
     ·
      intro w'
      go_simp
      with_reducible rfl
     rotate_left
     ·
      simp only [Act.put, zS, zT, zU, i64_w, i32_w]
      rfl
     refine pure_ (i := 10) (N := some 4) (v := ?_) (a' := ?_) #[zB,zB,zB,zB,zB,zB,zB,zB,zB,zB,zB] rfl rfl (any_of HT_.out zq3) (fun _ _ _ h => h) (Or.inl ⟨by rfl, ?_⟩) ?_ ?_
     rotate_left
     ·
      intro w'
      go_simp
      with_reducible rfl
     rotate_left
     ·
      simp only [Act.put, zS, zT, zU, i64_w, i32_w]
      rfl
     refine done_ (done_of HT_.out zq3) ?_
     try go_wp2
     go_ret
     exact ⟨(by first | rfl | (simp [errW_none, errW_some] <;> rfl) | (simp only [← hji7]; first | rfl | (simp [errW_none, errW_some] <;> rfl)) | (simp [*, errW_none, errW_some] <;> rfl)), zq0⟩
    rw [if_neg c9] at H
    exact absurd H zq16
   rw [if_neg c8] at H
   exact absurd H zq16
  rw [if_neg c5] at H
  exact absurd H zq16
 replace c4 := Bool.eq_false_iff.mpr c4
 subst c4
 have H1 : (some false) = some r := by rw [if_neg (show ¬ (false = true) by decide)] at H; exact H
 clear H
 have H := H1
 clear H1
 obtain rfl := Option.some.inj H
 go_enter Tryz.func90, Tryz.ntmps90
 try go_wp2
 have n0_ := zK (zD HB.out)
 clear HB
 have HB := n0_
 clear n0_
 refine start_ (n := 11) (S := fun w' => True) (ds := []) #[zF,zF,zF,zF,zF,zF,zF,zF,zF,zF,zF] zq3 rfl rfl trivial (fun hHeld => ?_); refine with_tabW impl_isIdOf.tab1 impl_isIdOf.bits1 (fun HT_ HW_ => ?_)
 generalize w.drew = w13 at HB hHeld ⊢
 refine pure_ (i := 0) (N := some 5) (v := ?_) (a' := ?_) #[zB,zF,zF,zF,zF,zF,zF,zF,zF,zF,zF] rfl rfl (any_of HT_.out zq3) (fun _ _ _ h => h) (Or.inl ⟨by rfl, ?_⟩) ?_ ?_
 rotate_left
 ·
  intro w'
  go_simp
  with_reducible rfl
 rotate_left
 ·
  simp only [Act.put, zS, zT, zU, i64_w, i32_w]
  rfl
 refine one_ (i := 1) (N := some 6) #[zB,zB,zF,zF,zF,zF,zF,zF,zF,zF,zF] rfl rfl (one_of HT_.out zq3) zq13 (fun K hK => ?_)
 refine goes_ Tryz.func141 zq3 rfl #[.string a1] zq28 rfl rfl zq1 ?_
 with_reducible refine (impl_IsId.calls a1 false _ A3.out).mono ?_
 rintro e w14 ⟨rfl, hb⟩
 refine ⟨_, rfl, ?_⟩
 have n0_ := zK (below_step zq0 hb)
 clear HB
 have HB := n0_
 clear n0_
 (try clear hb)
 (try clear hb2)
 (try clear hk)
 (try clear hi)
 refine hK.out _ _ trivial (fun hHeld => ?_)
 clear hK K
 refine norm_ (a' := ?_) ?_ ?_
 rotate_left
 ·
  show Act.put _ (some 6) _ = _
  simp only [Act.put, zS, zT, zU, i64_w, i32_w]
  rfl
 refine pure_ (i := 2) (N := some 7) (v := ?_) (a' := ?_) #[zB,zB,zB,zF,zF,zF,zF,zF,zF,zF,zF] rfl rfl (any_of HT_.out zq3) (fun _ _ _ h => h) (Or.inl ⟨by rfl, ?_⟩) ?_ ?_
 rotate_left
 ·
  intro w'
  go_simp
  with_reducible rfl
 rotate_left
 ·
  simp only [Act.put, zS, zT, zU, i64_w, i32_w]
  rfl
 refine pure_ (i := 3) (N := some 8) (v := undef) (a' := ?_) #[zB,zB,zB,zB,zF,zF,zF,zF,zF,zF,zF] rfl rfl (any_of HT_.out zq3) (fun _ _ _ h => h) (Or.inr ⟨by rfl, rfl⟩) ?_ ?_
 rotate_left
 ·
  simp only [Act.put, zS, zT, zU, i64_w, i32_w]
  rfl
 refine pure_ (i := 4) (N := some 9) (v := undef) (a' := ?_) #[zB,zB,zB,zB,zB,zF,zF,zF,zF,zF,zF] rfl rfl (any_of HT_.out zq3) (fun _ _ _ h => h) (Or.inr ⟨by rfl, rfl⟩) ?_ ?_
 rotate_left
 ·
  simp only [Act.put, zS, zT, zU, i64_w, i32_w]
  rfl
 refine pure_ (i := 5) (N := some 10) (v := undef) (a' := ?_) #[zB,zB,zB,zB,zB,zB,zF,zF,zF,zF,zF] rfl rfl (any_of HT_.out zq3) (fun _ _ _ h => h) (Or.inr ⟨by rfl, rfl⟩) ?_ ?_
 rotate_left
 ·
  simp only [Act.put, zS, zT, zU, i64_w, i32_w]
  rfl
 refine pure_ (i := 6) (N := some 11) (v := undef) (a' := ?_) #[zB,zB,zB,zB,zB,zB,zB,zF,zF,zF,zF] rfl rfl (any_of HT_.out zq3) (fun _ _ _ h => h) (Or.inr ⟨by rfl, rfl⟩) ?_ ?_
 rotate_left
 ·
  simp only [Act.put, zS, zT, zU, i64_w, i32_w]
  rfl
 refine pure_ (i := 7) (N := some 12) (v := undef) (a' := ?_) #[zB,zB,zB,zB,zB,zB,zB,zB,zF,zF,zF] rfl rfl (any_of HT_.out zq3) (fun _ _ _ h => h) (Or.inr ⟨by rfl, rfl⟩) ?_ ?_
 rotate_left
 ·
  simp only [Act.put, zS, zT, zU, i64_w, i32_w]
  rfl
 refine pure_ (i := 8) (N := some 13) (v := undef) (a' := ?_) #[zB,zB,zB,zB,zB,zB,zB,zB,zB,zF,zF] rfl rfl (any_of HT_.out zq3) (fun _ _ _ h => h) (Or.inr ⟨by rfl, rfl⟩) ?_ ?_
 rotate_left
 ·
  simp only [Act.put, zS, zT, zU, i64_w, i32_w]
  rfl
 refine pure_ (i := 9) (N := some 14) (v := ?_) (a' := ?_) #[zB,zB,zB,zB,zB,zB,zB,zB,zB,zB,zF] rfl rfl (any_of HT_.out zq3) (fun _ _ _ h => h) (Or.inl ⟨by rfl, ?_⟩) ?_ ?_
 rotate_left
 ·
  intro w'
  go_simp
  with_reducible rfl
 rotate_left
 ·
  simp only [Act.put, zS, zT, zU, i64_w, i32_w]
  rfl
 refine pure_ (i := 10) (N := some 4) (v := ?_) (a' := ?_) #[zB,zB,zB,zB,zB,zB,zB,zB,zB,zB,zB] rfl rfl (any_of HT_.out zq3) (fun _ _ _ h => h) (Or.inl ⟨by rfl, ?_⟩) ?_ ?_
 rotate_left
 ·
  intro w'
  go_simp
  with_reducible rfl
 rotate_left
 ·
  simp only [Act.put, zS, zT, zU, i64_w, i32_w]
  rfl
 refine done_ (done_of HT_.out zq3) ?_
 try go_wp2
 go_ret
 exact ⟨zq5, zq0⟩
end Go.Proofs.YtkjgnnhpjcofiaaGreatDoor.PX

namespace Go.Proofs.YtkjgnnhpjcofiaaGreatDoorX
open Go Go.RowKit Go.Proofs.YtkjgnnhpjcofiaaGreatDoorW.PrintWords Go.Proofs.YtkjgnnhpjcofiaaGreatDoor.PX
def hexD (b : UInt8) : Bool := decide (48 ≤ b.toNat ∧ b.toNat ≤ 57 ∨ 97 ≤ b.toNat ∧ b.toNat ≤ 102)
def isIdM : List UInt8 → Bool
 | [a, b, c, d, e] => (a == 98 || a == 116 || a == 99) && (hexD b && (hexD c && (hexD d && hexD e)))
 | _ => false
theorem five {s : ByteArray} (h : s.size = 5) : ∃ a b c d e, s.data.toList = [a, b, c, d, e] := by
 rw [size_list] at h
 match hl : s.data.toList, h with
 | [a, b, c, d, e], _ => exact ⟨a, b, c, d, e, rfl⟩
theorem isIdM_len {l : List UInt8} (h : l.length ≠ 5) : isIdM l = false := by
 match l, h with
 | [], _ => rfl
 | [_], _ => rfl
 | [_, _], _ => rfl
 | [_, _, _], _ => rfl
 | [_, _, _, _], _ => rfl
 | [_, _, _, _, _], h => exact absurd rfl h
 | _ :: _ :: _ :: _ :: _ :: _ :: _, _ => rfl
def hexStep (s : ByteArray) (i : Nat) (_ : Unit) : Sum Bool Unit := if hexD (s.data.toList.getD (i + 1) 0) = true then .inr () else .inl false
theorem spec_hex (s : ByteArray) (hs : s.size = 5) (k : Nat) (hk : 4 < k) : spec_IsId.l0 k s 1 = some (run (hexStep s) (fun _ => true) 4 0 ()) := by
 refine loop0 (F := fun k i (_ : Unit) => spec_IsId.l0 k s ((i : Int) + 1)) 4 0 (fun _ _ => True) (fun _ _ _ _ _ _ => trivial) (fun k i _ _ hi _ => ?_) (fun k _ _ _ => ?_) () trivial k zq7
 · simp only [spec_IsId.l0]
   rw [if_pos zq7, if_pos zq7, if_pos zq7, wrap_in zq7 zq7, show ((i : Int) + 1) = ((i + 1 : Nat) : Int) from rfl, bt_nat]
   unfold hexStep hexD
   have hb := (s.data.toList.getD (i + 1) 0).toNat_lt
   generalize (s.data.toList.getD (i + 1) 0).toNat = n at *
   by_cases h1 : 48 ≤ n ∧ n ≤ 57 ∨ 97 ≤ n ∧ n ≤ 102
   · rw [if_pos (decide_eq_true h1)]
     dsimp only
     (repeat' split) <;> first | rfl | (exfalso; omega)
   · rw [if_neg (fun h => h1 (of_decide_eq_true h))]
     dsimp only
     (repeat' split) <;> first | rfl | (exfalso; omega)
 · simp only [spec_IsId.l0]
   rw [if_neg zq7]
theorem spec_isId (s : ByteArray) (k : Nat) (hk : 8 ≤ k) : spec_IsId.f k s = some (isIdM s.data.toList) := by
 unfold spec_IsId.f
 obtain ⟨k, rfl⟩ : ∃ m, k = m + 1 := ⟨k - 1, by omega⟩
 by_cases h : s.size = 5
 · obtain ⟨a, b, c, d, e, hl⟩ := five h
   rw [if_pos zq7, if_pos zq7]
   have e0 : bt s 0 = (a.toNat : Int) := by have := bt_nat s 0; rw [hl] at this; exact this
   have hx : ∀ x, spec_IsId.j0 (k + 1) s x = some (if x = true then false else hexD b && (hexD c && (hexD d && hexD e))) := by
    intro x
    simp only [spec_IsId.j0]
    cases x with
    | true => rfl
    | false =>
      rw [if_neg zq13, spec_hex s h k zq7, if_neg zq13]
      congr 1
      have g : ∀ i, s.data.toList.getD i 0 = [a, b, c, d, e].getD i 0 := fun i => by rw [hl]
      cases hb : hexD b
      · rw [run_out (r := false) (by unfold hexStep; rw [g]; simp [hb])]; rfl
      rw [run_on (s' := ()) (by unfold hexStep; rw [g]; simp [hb])]
      cases hc : hexD c
      · rw [run_out (r := false) (by unfold hexStep; rw [g]; simp [hc])]; rfl
      rw [run_on (s' := ()) (by unfold hexStep; rw [g]; simp [hc])]
      cases hd : hexD d
      · rw [run_out (r := false) (by unfold hexStep; rw [g]; simp [hd])]; rfl
      rw [run_on (s' := ()) (by unfold hexStep; rw [g]; simp [hd])]
      cases he : hexD e
      · rw [run_out (r := false) (by unfold hexStep; rw [g]; simp [he])]; rfl
      rw [run_on (s' := ()) (by unfold hexStep; rw [g]; simp [he])]
      rfl
   simp only [hx, hl, e0, Bool.false_eq_true, if_false]
   have q : ∀ n : Nat, n < 256 → ((a.toNat : Int) = (n : Int) ↔ a = n.toUInt8) := by
    intro n hn
    constructor
    · intro h
      apply UInt8.toNat_inj.1
      rw [UInt8.toNat_ofNat']
      omega
    · intro h
      rw [h, UInt8.toNat_ofNat']
      omega
   simp only [isIdM]
   have q1 := q 98 zq7; have q2 := q 116 zq7; have q3 := q 99 zq7
   by_cases h1 : (a.toNat : Int) = 98
   · rw [if_pos h1]; have := q1.1 h1; subst this; rfl
   · rw [if_neg h1]
     by_cases h2 : (a.toNat : Int) = 116
     · rw [if_pos h2]; have := q2.1 h2; subst this; rfl
     · rw [if_neg h2]
       have n1 : (a == 98) = false := beq_eq_false_iff_ne.2 (fun e => h1 (q1.2 e))
       have n2 : (a == 116) = false := beq_eq_false_iff_ne.2 (fun e => h2 (q2.2 e))
       rw [n1, n2]
       by_cases h3 : (a.toNat : Int) = 99
       · have := q3.1 h3; subst this; rfl
       · have n3 : (a == 99) = false := beq_eq_false_iff_ne.2 (fun e => h3 (q3.2 e))
         rw [n3, show ((a.toNat : Int) != 99) = true from bne_iff_ne.2 h3]
         rfl
 · rw [if_neg zq7]
   simp only [spec_IsId.j0]
   rw [isIdM_len (by rw [← size_list]; exact h)]
   rfl
theorem trimS_nil (l cs : List UInt8) : Lib.trimS l cs = [] ↔ ∀ b ∈ l, cs.contains b = true := by
 have hd : ∀ m : List UInt8, m.dropWhile (cs.contains ·) = [] ↔ ∀ b ∈ m, cs.contains b = true := by
  intro m
  induction m with
  | nil => simp
  | cons x m ih =>
    rw [List.dropWhile_cons]
    by_cases hx : cs.contains x = true
    · rw [if_pos hx, ih]
      constructor
      · intro h b hb
        rcases List.mem_cons.1 hb with rfl | hb
        · exact hx
        · exact h b hb
      · intro h b hb
        exact h b (List.mem_cons_of_mem _ hb)
    · rw [if_neg hx]
      constructor
      · intro h; cases h
      · intro h; exact absurd (h x List.mem_cons_self) hx
 unfold Lib.trimS Lib.trimLeftS Lib.trimRightS
 rw [hd]
 constructor
 · intro h b hb
   have : l.reverse.dropWhile (cs.contains ·) = [] := by
    cases hm : l.reverse.dropWhile (cs.contains ·) with
    | nil => rfl
    | cons x m =>
      exfalso
      have h1 := h x (by rw [hm]; simp)
      have h2 : ∀ (p : List UInt8), p.dropWhile (cs.contains ·) = x :: m → cs.contains x = false := by
       intro p
       induction p with
       | nil => intro h; simp at h
       | cons y p ih =>
         intro h
         rw [List.dropWhile_cons] at h
         by_cases hy : cs.contains y = true
         · rw [if_pos hy] at h; exact ih h
         · rw [if_neg hy] at h
           injection h with h _
           subst h
           simpa using hy
      have := h2 _ hm
      rw [this] at h1
      cases h1
   exact (hd _).1 this b (List.mem_reverse.2 hb)
 · intro h b hb
   have hm : b ∈ l.reverse := (List.dropWhile_sublist _).subset (List.mem_reverse.1 hb)
   exact h b (List.mem_reverse.1 hm)
theorem hexD_in (b : UInt8) : ([48, 49, 50, 51, 52, 53, 54, 55, 56, 57, 97, 98, 99, 100, 101, 102] : List UInt8).contains b = hexD b := by
 have key : ∀ n : Fin 256, ([48, 49, 50, 51, 52, 53, 54, 55, 56, 57, 97, 98, 99, 100, 101, 102] : List UInt8).contains (UInt8.ofNat n.val) = hexD (UInt8.ofNat n.val) := by decide +kernel
 have := key ⟨b.toNat, b.toNat_lt⟩
 simpa using this
theorem impl_isId (s : ByteArray) : impl_IsId.f s = some (isIdM s.data.toList) := by
 unfold impl_IsId.f
 by_cases h : s.size = 5
 · obtain ⟨a, b, c, d, e, hl⟩ := five h
   have e0 : bt s 0 = (a.toNat : Int) := by have := bt_nat s 0; rw [hl] at this; exact this
   rw [if_pos zq7, if_pos zq7]
   unfold strings_IndexByte.f strings_Trim.f
   simp only [Option.bind_some]
   have hx : (s.extract 1 s.size).data.toList = [b, c, d, e] := by
    rw [Lib.extract_data, hl, h]
    rfl
   have hsz : (s.extract 1 s.size).size = 4 := by rw [size_list, hx]; rfl
   have ea : (bt s 0).toNat.toUInt8 = a := by rw [e0, Int.toNat_natCast]; simp
   have et : ((⟨(Lib.trimS (s.extract 1 s.size).data.toList (⟨#[48, 49, 50, 51, 52, 53, 54, 55, 56, 57, 97, 98, 99, 100, 101, 102]⟩ : ByteArray).data.toList).toArray⟩ : ByteArray).toList == ([] : List UInt8)) = (hexD b && (hexD c && (hexD d && hexD e))) := by
    rw [toList_eq, hx, Bool.eq_iff_iff, beq_iff_eq]
    show Lib.trimS [b, c, d, e] [48, 49, 50, 51, 52, 53, 54, 55, 56, 57, 97, 98, 99, 100, 101, 102] = [] ↔ _
    rw [trimS_nil]
    simp only [hexD_in]
    simp
   have hi : (Lib.indexByte [98, 116, 99] a < 0) ↔ (a == 98 || a == 116 || a == 99) = false := by
    have key : ∀ n : Fin 256, (Lib.indexByte [98, 116, 99] (UInt8.ofNat n.val) < 0) ↔ (UInt8.ofNat n.val == 98 || UInt8.ofNat n.val == 116 || UInt8.ofNat n.val == 99) = false := by decide +kernel
    have := key ⟨a.toNat, a.toNat_lt⟩
    simpa using this
   rw [ea, hl]
   show (if Lib.indexByte [98, 116, 99] a < 0 then _ else _) = _
   by_cases hc : (a == 98 || a == 116 || a == 99) = false
   · rw [if_pos (hi.2 hc)]; simp only [isIdM, hc]; rfl
   · rw [if_neg (fun z => hc (hi.1 z)), if_pos zq7, if_pos zq7, if_pos zq13, if_pos zq13]
     simp only [Option.bind_some, isIdM]
     rw [et, show (a == 98 || a == 116 || a == 99) = true by revert hc; cases (a == 98 || a == 116 || a == 99) <;> simp]; rfl
 · rw [if_neg zq7, isIdM_len (by rw [← size_list]; exact h)]
def letterM (kind : Nat) : UInt8 := if kind = 1 then 98 else if kind = 2 then 116 else 99
def isIdOfM (kind : Nat) (l : List UInt8) : Bool := isIdM l && l.getD 0 0 == letterM kind
theorem impl_isIdOf_tells (kind : Nat) (hk : 1 ≤ kind ∧ kind ≤ 3) (s : ByteArray) : impl_isIdOf.f (kind : Int) s = some (isIdOfM kind s.data.toList) := by
 unfold impl_isIdOf.f isIdOfM
 rw [impl_isId]
 simp only [Option.bind_some]
 cases h : isIdM s.data.toList with
 | false => rfl
 | true =>
   have hs : s.size = 5 := by
    rw [size_list]
    rcases Nat.decEq s.data.toList.length 5 with h' | h'
    · rw [isIdM_len h'] at h; cases h
    · exact h'
   rw [if_pos rfl, if_pos zq7, wrap_in zq7 zq7, if_pos zq7, if_pos zq7]
   have e0 : bt s 0 = ((s.data.toList.getD 0 0).toNat : Int) := bt_nat s 0
   have e1 : bt (⟨#[98, 116, 99]⟩ : ByteArray) ((kind : Int) - 1) = ((letterM kind).toNat : Int) := by
    obtain rfl | rfl | rfl : kind = 1 ∨ kind = 2 ∨ kind = 3 := by omega
    · rfl
    · rfl
    · rfl
   rw [e0, e1, Bool.true_and]
   congr 1
   rw [Bool.eq_iff_iff, beq_iff_eq, beq_iff_eq]
   constructor
   · intro h; exact UInt8.toNat_inj.1 zq7
   · intro h; rw [h]
theorem spec_l6Is_tells (kind : Nat) (hk : 1 ≤ kind ∧ kind ≤ 3) (s : ByteArray) (k : Nat) (h8 : 8 ≤ k) : spec_l6Is.f k s (kind : Int) = some (isIdOfM kind s.data.toList) := by
 unfold spec_l6Is.f isIdOfM
 rw [spec_isId s k h8]
 simp only [Option.bind_some]
 cases h : isIdM s.data.toList with
 | false => rfl
 | true =>
   have hs : s.size = 5 := by
    rw [size_list]
    rcases Nat.decEq s.data.toList.length 5 with h' | h'
    · rw [isIdM_len h'] at h; cases h
    · exact h'
   obtain ⟨a, b, c, d, e, hl⟩ := five hs
   rw [if_pos rfl, if_pos zq7, if_pos zq7]
   have e1 : spec_l5Letter.f (kind : Int) = some ⟨#[letterM kind]⟩ := by
    unfold spec_l5Letter.f
    rw [if_pos zq7, wrap_in zq7 zq7, if_pos zq7, if_pos zq7]
    obtain rfl | rfl | rfl : kind = 1 ∨ kind = 2 ∨ kind = 3 := by omega
    · rfl
    · rfl
    · rfl
   rw [e1]
   simp only [Option.bind_some, Bool.true_and]
   have e2 : (s.extract 0 1).toList = [a] := by rw [toList_eq, Lib.extract_data, hl]; rfl
   have e3 : (⟨#[letterM kind]⟩ : ByteArray).toList = [letterM kind] := by rw [toList_eq]
   rw [e2, e3, hl]
   congr 1
   rw [Bool.eq_iff_iff, beq_iff_eq, beq_iff_eq]
   simp
end Go.Proofs.YtkjgnnhpjcofiaaGreatDoorX
