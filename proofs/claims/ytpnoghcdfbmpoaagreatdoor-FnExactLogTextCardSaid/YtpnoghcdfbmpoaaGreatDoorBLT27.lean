/- Texts of this claim set one behind another by wip/bundle.py: PXf187, PXf188, PXf164, PXf131, PXf97, XIds, XComF. -/
import Derived.Test.YtpnoghcdfbmpoaaGreatDoorBLT15
import Derived.Test.YtpnoghcdfbmpoaaGreatDoorBLT8
import Derived.Test.YtpnoghcdfbmpoaaGreatDoorBLT16
import Derived.Test.YtpnoghcdfbmpoaaGreatDoorBLT10
namespace Go.Proofs.YtpnoghcdfbmpoaaGreatDoor.PX
open Go.RowKit Go.Proofs.YtpnoghcdfbmpoaaGreatDoorW.PrintWords Go.Proofs.YtpnoghcdfbmpoaaGreatDoorW.PrintLast Go.Proofs.YtpnoghcdfbmpoaaGreatDoorW.PrintMore
attribute [local go_sem] max2_int min2_int max_two min_two max_three min_three max_four min_four   -- for this text's walks alone
set_option linter.unusedVariables false
set_option linter.unusedSimpArgs false
def strings_IndexByte.f (a0 : ByteArray) (a1 : Int) : Option (Int) := some (Lib.indexByte a0.data.toList a1.toNat.toUInt8)
theorem strings_IndexByte.calls (a0 : ByteArray) (a1 : Int) (r : Int) (w : World) (h : strings_IndexByte.f a0 a1 = some r) :
  Calls Tryz.prog 187 #[.string a0, .int .u8 a1] w fun e w' => e = .returned (.int .i64 r) ∧ Drawn0 w w' := by
 obtain rfl := Option.some.inj h
 exact (Any.strings_IndexByte Tryz.lays137 a0 a1 w).mono fun e w' ⟨he, hw⟩ => ⟨he, hw ▸ Drawn0.refl _⟩
def strings_Trim.f (a0 : ByteArray) (a1 : ByteArray) : Option (ByteArray) := if a0.size ≤ 9223372036854775807 then (if a1.size < 4294967281 then (if a1.data.toList.all (fun b => decide (b.toNat < 128)) = true then some ⟨(Lib.trimS a0.data.toList a1.data.toList).toArray⟩ else none) else none) else none
theorem strings_Trim.calls (a0 : ByteArray) (a1 : ByteArray) (r : ByteArray) (w : World) (h : strings_Trim.f a0 a1 = some r) :
  Calls Tryz.prog 188 #[.string a0, .string a1] w fun e w' => e = .returned (.string r) ∧ Below w.heap.size w w' := by
 unfold strings_Trim.f at h
 by_cases h1 : a0.size ≤ 9223372036854775807
 ·
  rw [if_pos h1] at h
  by_cases h2 : a1.size < 4294967281
  ·
   rw [if_pos h2] at h
   by_cases h3 : a1.data.toList.all (fun b => decide (b.toNat < 128)) = true
   ·
    rw [if_pos h3] at h
    obtain rfl := Option.some.inj h
    exact Any.strings_Trim_ascii Tryz.lays160 (fun w => by kernel_rfl) zq6 a0 a1 w h1 h2 (fun j b hb => zX (List.all_eq_true.1 h3 b (List.mem_of_getElem? hb)))
   rw [if_neg h3] at h
   cases h
  rw [if_neg h2] at h
  cases h
 rw [if_neg h1] at h
 cases h
def impl_IsId.f (a0 : ByteArray) : Option (Bool) := if (a0.size : Int) = 5 then (if 0 < (a0.size : Int) then ((strings_IndexByte.f (⟨#[98, 116, 99]⟩ : ByteArray) (bt a0 0)).bind fun t307 => (if t307 < 0 then (some false) else (if 1 ≤ (a0.size : Int) then ((strings_Trim.f (a0.extract 1 a0.size) (⟨#[48, 49, 50, 51, 52, 53, 54, 55, 56, 57, 97, 98, 99, 100, 101, 102]⟩ : ByteArray)).bind fun t308 => (some (t308.toList == ([] : List UInt8)))) else (none)))) else (none)) else (some false)
set_option maxHeartbeats 8000000 in
set_option maxRecDepth 100000 in
theorem impl_IsId.calls (a0 : ByteArray) (r : Bool) (w : World) (h : impl_IsId.f a0 = some r) :
  Calls Tryz.prog 164 #[.string a0] w fun e w' => e = .returned (.bool r) ∧ Below w.heap.size w w' := by
 have HB := zK (Below.refl w.heap.size w)
 have H : (if (a0.size : Int) = 5 then (if 0 < (a0.size : Int) then ((strings_IndexByte.f (⟨#[98, 116, 99]⟩ : ByteArray) (bt a0 0)).bind fun t307 => (if t307 < 0 then (some false) else (if 1 ≤ (a0.size : Int) then ((strings_Trim.f (a0.extract 1 a0.size) (⟨#[48, 49, 50, 51, 52, 53, 54, 55, 56, 57, 97, 98, 99, 100, 101, 102]⟩ : ByteArray)).bind fun t308 => (some (t308.toList == ([] : List UInt8)))) else (none)))) else (none)) else (some false)) = some r := h
 clear h
 by_cases c2 : (a0.size : Int) = 5
 ·
  rw [if_pos c2] at H
  have c2b0 : ((a0.size : Int) == 5) = true := beq_iff_eq.mpr c2
  have c2b1 : ((a0.size : Int) != 5) = false := bne_eq_false_iff_eq.mpr c2
  clear c2
  by_cases c3 : 0 < (a0.size : Int)
  ·
   rw [if_pos c3] at H
   have c3b0 : decide (0 < (a0.size : Int)) = true := decide_eq_true c3
   have c3b1 : decide (0 < a0.size) = true := decide_eq_true zq7
   clear c3
   replace H := Option.bind_eq_some_iff.mp H
   obtain ⟨t307, A50, H⟩ := H
   replace H : (if t307 < 0 then (some false) else (if 1 ≤ (a0.size : Int) then ((strings_Trim.f (a0.extract 1 a0.size) (⟨#[48, 49, 50, 51, 52, 53, 54, 55, 56, 57, 97, 98, 99, 100, 101, 102]⟩ : ByteArray)).bind fun t308 => (some (t308.toList == ([] : List UInt8)))) else (none))) = some r := H
   have A5 := zK A50
   clear A50
   by_cases c6 : t307 < 0
   ·
    rw [if_pos c6] at H
    have c6b0 : decide (t307 < 0) = true := decide_eq_true c6
    clear c6
    obtain rfl := Option.some.inj H
    have p4 : 0 ≤ (0 : Int) := zq7
    have q4 : 0 < a0.size := (by have : (0 : Int) < (a0.size : Int) := zX zq2; omega)
    have hx4 : ∀ h : 0 < a0.size, ((a0[0]'h).toNat : Int) = bt a0 0 := bt_at a0 0
    clear p4
    have qi4 : (0 < (a0.size : Int)) = True := eq_true (zX zq2)
    replace q4 := eq_true q4
    go_enter Tryz.func164, Tryz.ntmps164
    go_wp2_with (first | (go_at_call 187; (with_reducible refine (strings_IndexByte.calls (⟨#[98, 116, 99]⟩ : ByteArray) (bt a0 0) t307 _ A5.out).mono ?_); rintro e w' ⟨rfl, ⟨nd, rfl⟩⟩))
    go_ret
    exact ⟨zq3, zq0⟩
   rw [if_neg c6] at H
   have c6b0 : decide (t307 < 0) = false := decide_eq_false c6
   clear c6
   by_cases c7 : 1 ≤ (a0.size : Int)
   ·
    rw [if_pos c7] at H
    have c7b0 := eq_true c7
    have c7b1 : decide (1 ≤ (a0.size : Int)) = true := decide_eq_true c7
    clear c7
    replace H := Option.bind_eq_some_iff.mp H
    obtain ⟨t308, A80, H⟩ := H
    replace H : (some (t308.toList == ([] : List UInt8))) = some r := H
    have A8 := zK A80
    clear A80
    obtain rfl := Option.some.inj H
    have p4 : 0 ≤ (0 : Int) := zq7
    have q4 : 0 < a0.size := (by have : (0 : Int) < (a0.size : Int) := zX zq2; omega)
    have hx4 : ∀ h : 0 < a0.size, ((a0[0]'h).toNat : Int) = bt a0 0 := bt_at a0 0
    clear p4
    have qi4 : (0 < (a0.size : Int)) = True := eq_true (zX zq2)
    replace q4 := eq_true q4
    go_enter Tryz.func164, Tryz.ntmps164
    go_wp2_with (first | (go_at_call 187; (with_reducible refine (strings_IndexByte.calls (⟨#[98, 116, 99]⟩ : ByteArray) (bt a0 0) t307 _ A5.out).mono ?_); rintro e w' ⟨rfl, ⟨nd, rfl⟩⟩) | ((with_reducible refine gate_callee (f := 188) rfl ?_); refine goesL_ (some 14) rfl rfl Tryz.func188 zq6 rfl #[.string (a0.extract 1 a0.size), .string (⟨#[48, 49, 50, 51, 52, 53, 54, 55, 56, 57, 97, 98, 99, 100, 101, 102]⟩ : ByteArray)] rfl zq1 ?_; (with_reducible refine (strings_Trim.calls (a0.extract 1 a0.size) (⟨#[48, 49, 50, 51, 52, 53, 54, 55, 56, 57, 97, 98, 99, 100, 101, 102]⟩ : ByteArray) t308 _ A8.out).mono ?_); rintro e w9 ⟨rfl, hb⟩; refine ⟨_, rfl, ?_⟩; have n0_ := zK (below_step zq0 hb); clear HB; have HB := n0_; clear n0_; (try clear hb); (try clear hb2); (try clear hk); (try clear hi)))
    go_ret
    exact ⟨zq3, zq0⟩
   rw [if_neg c7] at H
   exact absurd H zq12
  rw [if_neg c3] at H
  exact absurd H zq12
 rw [if_neg c2] at H
 have c2b0 : ((a0.size : Int) == 5) = false := beq_eq_false_iff_ne.mpr c2
 have c2b1 : ((a0.size : Int) != 5) = true := bne_iff_ne.mpr c2
 obtain rfl := Option.some.inj H
 go_enter Tryz.func164, Tryz.ntmps164
 go_wp2
 go_ret
 exact ⟨zq3, zq0⟩
def impl_isIdOf.f (a0 : Int) (a1 : ByteArray) : Option (Bool) := (impl_IsId.f a1).bind fun t309 => (if t309 = true then (if 0 < (a1.size : Int) then (if 0 ≤ (wrap64 (a0 - 1)) then (if (wrap64 (a0 - 1)) < 3 then (some ((bt a1 0) == (bt (⟨#[98, 116, 99]⟩ : ByteArray) (wrap64 (a0 - 1))))) else (none)) else (none)) else (none)) else (some false))
def impl_isIdOf.T1 : Bool × List (List Nat × List Nat) := (true, [([], []), ([0], [0]), ([1, 1], [1]), ([2], [2]), ([3, 2], [2, 3]), ([2], [2]), ([5, 2], [2, 5]), ([6, 2], [2, 6]), ([4, 7, 2], [2, 4, 7]), ([2, 8], [2, 8]), ([9, 2, 0, 1, 2, 3, 4, 5, 6, 7, 8, 9], [9])])
def impl_isIdOf.B1 : List Nat := [0, 1, 3, 7, 15, 7, 39, 103, 255, 511, 1023]
theorem impl_isIdOf.tab1 : rtab .any (opsOf Tryz.f131 1) = impl_isIdOf.T1 := by kernel_rfl
theorem impl_isIdOf.bits1 : waitsOk impl_isIdOf.T1.2 impl_isIdOf.B1 = true := by kernel_rfl
set_option maxHeartbeats 8000000 in
set_option maxRecDepth 100000 in
theorem impl_isIdOf.calls (a0 : Int) (a1 : ByteArray) (r : Bool) (w : World) (h : impl_isIdOf.f a0 a1 = some r) :
  Calls Tryz.prog 131 #[.int .i64 a0, .string a1] w fun e w' => e = .returned (.bool r) ∧ Below w.heap.size w w' := by
 have HB := zK (Below.refl w.heap.size w)
 have H : ((impl_IsId.f a1).bind fun t309 => (if t309 = true then (if 0 < (a1.size : Int) then (if 0 ≤ (wrap64 (a0 - 1)) then (if (wrap64 (a0 - 1)) < 3 then (some ((bt a1 0) == (bt (⟨#[98, 116, 99]⟩ : ByteArray) (wrap64 (a0 - 1))))) else (none)) else (none)) else (none)) else (some false))) = some r := h
 clear h
 replace H := Option.bind_eq_some_iff.mp H
 obtain ⟨t309, A30, H⟩ := H
 replace H : (if t309 = true then (if 0 < (a1.size : Int) then (if 0 ≤ (wrap64 (a0 - 1)) then (if (wrap64 (a0 - 1)) < 3 then (some ((bt a1 0) == (bt (⟨#[98, 116, 99]⟩ : ByteArray) (wrap64 (a0 - 1))))) else (none)) else (none)) else (none)) else (some false)) = some r := H
 have A3 := zK A30
 clear A30
 by_cases c4 : t309 = true
 ·
  subst c4
  have H1 : (if 0 < (a1.size : Int) then (if 0 ≤ (wrap64 (a0 - 1)) then (if (wrap64 (a0 - 1)) < 3 then (some ((bt a1 0) == (bt (⟨#[98, 116, 99]⟩ : ByteArray) (wrap64 (a0 - 1))))) else (none)) else (none)) else (none)) = some r := by rw [if_pos rfl] at H; exact H
  clear H
  have H := H1
  clear H1
  by_cases c5 : 0 < (a1.size : Int)
  ·
   rw [if_pos c5] at H
   have c5b0 : decide (0 < (a1.size : Int)) = true := decide_eq_true c5
   have c5b1 : decide (0 < a1.size) = true := decide_eq_true zq7
   clear c5
   obtain ⟨ji7, hji7⟩ : ∃ j_ : Int, (wrap64 (a0 - 1)) = j_ := ⟨_, rfl⟩
   replace H : (if 0 ≤ (ji7) then (if (ji7) < 3 then (some ((bt a1 0) == (bt (⟨#[98, 116, 99]⟩ : ByteArray) (ji7)))) else (none)) else (none)) = some r := by first | (rw [hji7] at H; exact H) | (simp only [hji7] at H ⊢; exact H)
   (try rw [hji7] at A3)
   have hji7w : (IntKind.i64.wrap (a0 - 1)) = ji7 := (i64_w _).trans hji7
   by_cases c8 : 0 ≤ (ji7)
   ·
    rw [if_pos c8] at H
    have c8b0 : decide (0 ≤ (ji7)) = true := decide_eq_true c8
    clear c8
    by_cases c9 : (ji7) < 3
    ·
     rw [if_pos c9] at H
     have c9b0 : decide ((ji7) < 3) = true := decide_eq_true c9
     clear c9
     obtain rfl := Option.some.inj H
     go_enter Tryz.func131, Tryz.ntmps131
     try go_wp2
     have n0_ := zK (zD HB.out)
     clear HB
     have HB := n0_
     clear n0_
     refine start_ (n := 11) (S := fun w' => True) (ds := []) #[zF,zF,zF,zF,zF,zF,zF,zF,zF,zF,zF] zq6 rfl rfl trivial (fun hHeld => ?_); refine with_tabW impl_isIdOf.tab1 impl_isIdOf.bits1 (fun HT_ HW_ => ?_)
     generalize w.drew = w11 at HB hHeld ⊢
     refine pure_ (i := 0) (N := some 5) (v := ?_) (a' := ?_) #[zB,zF,zF,zF,zF,zF,zF,zF,zF,zF,zF] rfl rfl (any_of HT_.out zq6) (fun _ _ _ h => h) (Or.inl ⟨by rfl, ?_⟩) ?_ ?_
     rotate_left
     ·
      intro w'
      go_simp
      with_reducible rfl
     rotate_left
     ·
      simp only [Act.put, zS, zT, zU, i64_w, i32_w]
      rfl
     refine one_ (i := 1) (N := some 6) #[zB,zB,zF,zF,zF,zF,zF,zF,zF,zF,zF] rfl rfl (one_of HT_.out zq6) zq9 (fun K hK => ?_)
     refine goes_ Tryz.func164 zq6 rfl #[.string a1] zq19 rfl rfl zq1 ?_
     with_reducible refine (impl_IsId.calls a1 true _ A3.out).mono ?_
     rintro e w12 ⟨rfl, hb⟩
     refine ⟨_, rfl, ?_⟩
     have n0_ := zK (below_step zq0 hb)
     clear HB
     have HB := n0_
     clear n0_
     (try clear hb)
     (try clear hb2)
     (try clear hk)
     (try clear hi)
     have p6 : 0 ≤ (0 : Int) := zq7
     have q6 : 0 < a1.size := (by have : (0 : Int) < (a1.size : Int) := zX zq2; omega)
     have hx6 : ∀ h : 0 < a1.size, ((a1[0]'h).toNat : Int) = bt a1 0 := bt_at a1 0
     clear p6
     have qi6 : (0 < (a1.size : Int)) = True := eq_true (zX zq2)
     replace q6 := eq_true q6
     have p10 : 0 ≤ ((ji7) : Int) := zX zq2
     have q10 : (ji7) < (3 : Int) := zX zq2
     have hx10 := bt_at (⟨#[98, 116, 99]⟩ : ByteArray) (ji7)
     replace p10 := eq_true p10
     replace q10 := eq_true q10
     refine hK.out _ _ trivial (fun hHeld => ?_)
     clear hK K
     refine norm_ (a' := ?_) ?_ ?_
     rotate_left
     ·
      show Act.put _ (some 6) _ = _
      simp only [Act.put, zS, zT, zU, i64_w, i32_w]
      rfl
     refine pure_ (i := 2) (N := some 7) (v := ?_) (a' := ?_) #[zB,zB,zB,zF,zF,zF,zF,zF,zF,zF,zF] rfl rfl (any_of HT_.out zq6) (fun _ _ _ h => h) (Or.inl ⟨by rfl, ?_⟩) ?_ ?_
     rotate_left
     ·
      intro w'
      go_simp
      with_reducible rfl
     rotate_left
     ·
      simp only [Act.put, zS, zT, zU, i64_w, i32_w]
      rfl
     refine pure_ (i := 3) (N := some 8) (v := ?_) (a' := ?_) #[zB,zB,zB,zB,zF,zF,zF,zF,zF,zF,zF] rfl rfl (any_of HT_.out zq6) (fun _ _ _ h => h) (Or.inl ⟨by rfl, ?_⟩) ?_ ?_
     rotate_left
     ·
      intro w'
      go_simp
      with_reducible rfl
     rotate_left
     ·
      simp only [Act.put, zS, zT, zU, i64_w, i32_w]
      rfl
     refine pure_ (i := 5) (N := some 10) (v := ?_) (a' := ?_) #[zB,zB,zB,zB,zF,zB,zF,zF,zF,zF,zF] rfl rfl (any_of HT_.out zq6) (fun _ _ _ h => h) (Or.inl ⟨by rfl, ?_⟩) ?_ ?_
     rotate_left
     ·
      intro w'
      go_simp
      with_reducible rfl
     rotate_left
     ·
      simp only [Act.put, zS, zT, zU, i64_w, i32_w]
      rfl
     refine pure_ (i := 6) (N := some 11) (v := ?_) (a' := ?_) #[zB,zB,zB,zB,zF,zB,zB,zF,zF,zF,zF] rfl rfl (any_of HT_.out zq6) (fun _ _ _ h => h) (Or.inl ⟨by rfl, ?_⟩) ?_ ?_
     rotate_left
     ·
      intro w'
      go_simp
      with_reducible rfl
     rotate_left
     ·
      simp only [Act.put, zS, zT, zU, i64_w, i32_w]
      rfl
     refine take_ (i := 4) (N := some 9) (v := ?_) (a' := ?_) #[zB,zB,zB,zB,zB,zB,zB,zF,zF,zF,zF] rfl rfl (take_ofW HT_.out HW_.out zq6) (fun _ _ _ h => h) (Or.inl ⟨by rfl, ?_⟩) hHeld ?_ ?_
     rotate_left
     ·
      intro w' _
      go_simp
      with_reducible rfl
     rotate_left
     ·
      simp only [Act.put, zS, zT, zU, i64_w, i32_w]
      rfl
     refine take_ (i := 7) (N := some 12) (v := ?_) (a' := ?_) #[zB,zB,zB,zB,zB,zB,zB,zB,zF,zF,zF] rfl rfl (take_ofW HT_.out HW_.out zq6) (fun _ _ _ h => h) (Or.inl ⟨by rfl, ?_⟩) hHeld ?_ ?_
     rotate_left
     ·
      intro w' _
      go_simp
      with_reducible rfl
     rotate_left
     ·
      simp only [Act.put, zS, zT, zU, i64_w, i32_w]
      rfl
     refine pure_ (i := 8) (N := some 13) (v := ?_) (a' := ?_) #[zB,zB,zB,zB,zB,zB,zB,zB,zB,zF,zF] rfl rfl (any_of HT_.out zq6) (fun _ _ _ h => h) (Or.inl ⟨by rfl, ?_⟩) ?_ ?_
     rotate_left
     ·
      intro w'
      go_simp
      with_reducible rfl
     rotate_left
     ·
      simp only [Act.put, zS, zT, zU, i64_w, i32_w]
      rfl
     refine pure_ (i := 9) (N := some 14) (v := ?_) (a' := ?_) #[zB,zB,zB,zB,zB,zB,zB,zB,zB,zB,zF] rfl rfl (any_of HT_.out zq6) (fun _ _ _ h => h) (Or.inl ⟨by rfl, ?_⟩) ?_ ?_
     rotate_left
     ·
      intro w'
      go_simp
      with_reducible rfl
     rotate_left
     ·
      simp only [Act.put, zS, zT, zU, i64_w, i32_w]
      rfl
     refine pure_ (i := 10) (N := some 4) (v := ?_) (a' := ?_) #[zB,zB,zB,zB,zB,zB,zB,zB,zB,zB,zB] rfl rfl (any_of HT_.out zq6) (fun _ _ _ h => h) (Or.inl ⟨by rfl, ?_⟩) ?_ ?_
     rotate_left
     ·
      intro w'
      go_simp
      with_reducible rfl
     rotate_left
     ·
      simp only [Act.put, zS, zT, zU, i64_w, i32_w]
      rfl
     refine done_ (done_of HT_.out zq6) ?_
     try go_wp2
     go_ret
     exact ⟨(by first | rfl | (simp [errW_none, errW_some] <;> rfl) | (simp only [← hji7]; first | rfl | (simp [errW_none, errW_some] <;> rfl)) | (simp [*, errW_none, errW_some] <;> rfl)), zq0⟩
    rw [if_neg c9] at H
    exact absurd H zq12
   rw [if_neg c8] at H
   exact absurd H zq12
  rw [if_neg c5] at H
  exact absurd H zq12
 replace c4 := Bool.eq_false_iff.mpr c4
 subst c4
 have H1 : (some false) = some r := by rw [if_neg (show ¬ (false = true) by decide)] at H; exact H
 clear H
 have H := H1
 clear H1
 obtain rfl := Option.some.inj H
 go_enter Tryz.func131, Tryz.ntmps131
 try go_wp2
 have n0_ := zK (zD HB.out)
 clear HB
 have HB := n0_
 clear n0_
 refine start_ (n := 11) (S := fun w' => True) (ds := []) #[zF,zF,zF,zF,zF,zF,zF,zF,zF,zF,zF] zq6 rfl rfl trivial (fun hHeld => ?_); refine with_tabW impl_isIdOf.tab1 impl_isIdOf.bits1 (fun HT_ HW_ => ?_)
 generalize w.drew = w13 at HB hHeld ⊢
 refine pure_ (i := 0) (N := some 5) (v := ?_) (a' := ?_) #[zB,zF,zF,zF,zF,zF,zF,zF,zF,zF,zF] rfl rfl (any_of HT_.out zq6) (fun _ _ _ h => h) (Or.inl ⟨by rfl, ?_⟩) ?_ ?_
 rotate_left
 ·
  intro w'
  go_simp
  with_reducible rfl
 rotate_left
 ·
  simp only [Act.put, zS, zT, zU, i64_w, i32_w]
  rfl
 refine one_ (i := 1) (N := some 6) #[zB,zB,zF,zF,zF,zF,zF,zF,zF,zF,zF] rfl rfl (one_of HT_.out zq6) zq9 (fun K hK => ?_)
 refine goes_ Tryz.func164 zq6 rfl #[.string a1] zq19 rfl rfl zq1 ?_
 with_reducible refine (impl_IsId.calls a1 false _ A3.out).mono ?_
 rintro e w14 ⟨rfl, hb⟩
 refine ⟨_, rfl, ?_⟩
 have n0_ := zK (below_step zq0 hb)
 clear HB
 have HB := n0_
 clear n0_
 (try clear hb)
 (try clear hb2)
 (try clear hk)
 (try clear hi)
 refine hK.out _ _ trivial (fun hHeld => ?_)
 clear hK K
 refine norm_ (a' := ?_) ?_ ?_
 rotate_left
 ·
  show Act.put _ (some 6) _ = _
  simp only [Act.put, zS, zT, zU, i64_w, i32_w]
  rfl
 refine pure_ (i := 2) (N := some 7) (v := ?_) (a' := ?_) #[zB,zB,zB,zF,zF,zF,zF,zF,zF,zF,zF] rfl rfl (any_of HT_.out zq6) (fun _ _ _ h => h) (Or.inl ⟨by rfl, ?_⟩) ?_ ?_
 rotate_left
 ·
  intro w'
  go_simp
  with_reducible rfl
 rotate_left
 ·
  simp only [Act.put, zS, zT, zU, i64_w, i32_w]
  rfl
 refine pure_ (i := 3) (N := some 8) (v := undef) (a' := ?_) #[zB,zB,zB,zB,zF,zF,zF,zF,zF,zF,zF] rfl rfl (any_of HT_.out zq6) (fun _ _ _ h => h) (Or.inr ⟨by rfl, rfl⟩) ?_ ?_
 rotate_left
 ·
  simp only [Act.put, zS, zT, zU, i64_w, i32_w]
  rfl
 refine pure_ (i := 4) (N := some 9) (v := undef) (a' := ?_) #[zB,zB,zB,zB,zB,zF,zF,zF,zF,zF,zF] rfl rfl (any_of HT_.out zq6) (fun _ _ _ h => h) (Or.inr ⟨by rfl, rfl⟩) ?_ ?_
 rotate_left
 ·
  simp only [Act.put, zS, zT, zU, i64_w, i32_w]
  rfl
 refine pure_ (i := 5) (N := some 10) (v := undef) (a' := ?_) #[zB,zB,zB,zB,zB,zB,zF,zF,zF,zF,zF] rfl rfl (any_of HT_.out zq6) (fun _ _ _ h => h) (Or.inr ⟨by rfl, rfl⟩) ?_ ?_
 rotate_left
 ·
  simp only [Act.put, zS, zT, zU, i64_w, i32_w]
  rfl
 refine pure_ (i := 6) (N := some 11) (v := undef) (a' := ?_) #[zB,zB,zB,zB,zB,zB,zB,zF,zF,zF,zF] rfl rfl (any_of HT_.out zq6) (fun _ _ _ h => h) (Or.inr ⟨by rfl, rfl⟩) ?_ ?_
 rotate_left
 ·
  simp only [Act.put, zS, zT, zU, i64_w, i32_w]
  rfl
 refine pure_ (i := 7) (N := some 12) (v := undef) (a' := ?_) #[zB,zB,zB,zB,zB,zB,zB,zB,zF,zF,zF] rfl rfl (any_of HT_.out zq6) (fun _ _ _ h => h) (Or.inr ⟨by rfl, rfl⟩) ?_ ?_
 rotate_left
 ·
  simp only [Act.put, zS, zT, zU, i64_w, i32_w]
  rfl
 refine pure_ (i := 8) (N := some 13) (v := undef) (a' := ?_) #[zB,zB,zB,zB,zB,zB,zB,zB,zB,zF,zF] rfl rfl (any_of HT_.out zq6) (fun _ _ _ h => h) (Or.inr ⟨by rfl, rfl⟩) ?_ ?_
 rotate_left
 ·
  simp only [Act.put, zS, zT, zU, i64_w, i32_w]
  rfl
 refine pure_ (i := 9) (N := some 14) (v := ?_) (a' := ?_) #[zB,zB,zB,zB,zB,zB,zB,zB,zB,zB,zF] rfl rfl (any_of HT_.out zq6) (fun _ _ _ h => h) (Or.inl ⟨by rfl, ?_⟩) ?_ ?_
 rotate_left
 ·
  intro w'
  go_simp
  with_reducible rfl
 rotate_left
 ·
  simp only [Act.put, zS, zT, zU, i64_w, i32_w]
  rfl
 refine pure_ (i := 10) (N := some 4) (v := ?_) (a' := ?_) #[zB,zB,zB,zB,zB,zB,zB,zB,zB,zB,zB] rfl rfl (any_of HT_.out zq6) (fun _ _ _ h => h) (Or.inl ⟨by rfl, ?_⟩) ?_ ?_
 rotate_left
 ·
  intro w'
  go_simp
  with_reducible rfl
 rotate_left
 ·
  simp only [Act.put, zS, zT, zU, i64_w, i32_w]
  rfl
 refine done_ (done_of HT_.out zq6) ?_
 try go_wp2
 go_ret
 exact ⟨zq3, zq0⟩
def impl_CommitFault.l0 : Nat → List ByteArray → Int → Int → ByteArray → List ByteArray → Int → ByteArray → Option (Int)
 | 0, _, _, _, _, _, _, _ => none
 | k + 1, x16, x17, x18, x311000, x311001, x311002, x311003 => if x18 < x17 then (if 0 ≤ x18 then (if x18 < (x16.length : Int) then ((impl_isIdOf.f 3 (rdOf ByteArray.empty x16 x18)).bind fun t313 => (if t313 = true then (if x18 ≤ (x311001.length : Int) then ((slices_Contains_string_string.f k (x311001.take (x18 : Int).toNat) (rdOf ByteArray.empty x16 x18)).bind fun t315 => (if t315 = true then (some 1) else (impl_CommitFault.l0 k x16 x17 (wrap64 (x18 + 1)) x311000 x311001 x311002 x311003))) else (none)) else (some 1))) else (none)) else (none)) else ((impl_within.f x311002 0 1000000000).bind fun t316 => ((impl_codeIf.f (!t316) 3).bind fun t317 => ((impl_isNote.f k x311003).bind fun t318 => ((impl_codeIf.f (!t318) 5).bind fun t319 => ((impl_firstCode.f k (([t317, t319] : List Int))).bind fun t323 => (some t323))))))
def impl_CommitFault.f (k : Nat) (a0_0 : ByteArray) (l0_1 : List ByteArray) (a0_2 : Int) (a0_3 : ByteArray) : Option (Int) := (impl_isIdOf.f 2 a0_0).bind fun t311 => (if t311 = true then (if (l0_1.length : Int) > 3 then (some 2) else (impl_CommitFault.l0 k l0_1 (l0_1.length : Int) 0 a0_0 l0_1 a0_2 a0_3)) else (some 1))
theorem impl_CommitFault.mono_l : ∀ k, (∀ y0 y1 y2 y3 y4 y5 y6, LeO (impl_CommitFault.l0 k y0 y1 y2 y3 y4 y5 y6) (impl_CommitFault.l0 (k + 1) y0 y1 y2 y3 y4 y5 y6))
 | 0 => fun _ _ _ _ _ _ _ r h => by simp [impl_CommitFault.l0] at h
 | k + 1 => by
  have ih0 := impl_CommitFault.mono_l k
  intro y0 y1 y2 y3 y4 y5 y6
  unfold impl_CommitFault.l0
  repeat' first
  | (with_reducible exact ih0 _ _ _ _ _ _ _)
  | (with_reducible exact impl_firstCode.mono _ _)
  | (with_reducible exact impl_isNote.mono _ _)
  | (with_reducible exact slices_Contains_string_string.mono _ _ _)
  | (with_reducible exact LeO.refl _)
  | (with_reducible exact LeO.none _)
  | (with_reducible refine LeO.ite ?_ ?_)
  | (with_reducible refine LeO.bind ?_ (fun _ => ?_))
  | exact ih0 _ _ _ _ _ _ _
  | exact impl_firstCode.mono _ _
  | exact impl_isNote.mono _ _
  | exact slices_Contains_string_string.mono _ _ _
  | exact LeO.none _
  | refine LeO.ite ?_ ?_
  | refine LeO.bind ?_ (fun _ => ?_)
theorem impl_CommitFault.mono : ∀ a0 a1 a2 a3 k, LeO (impl_CommitFault.f k a0 a1 a2 a3) (impl_CommitFault.f (k + 1) a0 a1 a2 a3) := by
 intro a0 a1 a2 a3 k
 have ih0 := impl_CommitFault.mono_l k
 unfold impl_CommitFault.f
 repeat' first
   | (with_reducible exact ih0 _ _ _ _ _ _ _)
   | (with_reducible exact impl_firstCode.mono _ _)
   | (with_reducible exact impl_isNote.mono _ _)
   | (with_reducible exact slices_Contains_string_string.mono _ _ _)
   | (with_reducible exact LeO.refl _)
   | (with_reducible exact LeO.none _)
   | (with_reducible refine LeO.ite ?_ ?_)
   | (with_reducible refine LeO.bind ?_ (fun _ => ?_))
   | exact ih0 _ _ _ _ _ _ _
   | exact impl_firstCode.mono _ _
   | exact impl_isNote.mono _ _
   | exact slices_Contains_string_string.mono _ _ _
   | exact LeO.none _
   | refine LeO.ite ?_ ?_
   | refine LeO.bind ?_ (fun _ => ?_)
def impl_CommitFault.T11 : Bool × List (List Nat × List Nat) := (true, [([], []), ([0], [0]), ([1], [1]), ([2], [2]), ([3, 2], [3]), ([], []), ([5], [5]), ([6, 4], [6]), ([7], [7]), ([8, 7], [8]), ([4, 9], [4, 9]), ([10, 9], [10]), ([11, 11, 0, 1, 2, 3, 4, 5, 6, 7, 8, 9, 10, 11], [11])])
def impl_CommitFault.B11 : List Nat := [0, 1, 3, 7, 15, 0, 32, 127, 255, 511, 1023, 2047, 4095]
theorem impl_CommitFault.tab11 : rtab .any (opsOf Tryz.f97 11) = impl_CommitFault.T11 := by kernel_rfl
theorem impl_CommitFault.bits11 : waitsOk impl_CommitFault.T11.2 impl_CommitFault.B11 = true := by kernel_rfl
set_option maxHeartbeats 8000000 in
set_option maxRecDepth 100000 in
theorem impl_CommitFault.calls (k : Nat) (a0_0 : ByteArray) (A0_1 : Option Addr) (c0_1 : Nat) (l0_1 : List ByteArray) (a0_2 : Int) (a0_3 : ByteArray) (r : Int) (w : World) (hr0_1 : Kd.C Kd.string w A0_1 l0_1.length l0_1) (hc0_1 : l0_1.length ≤ c0_1) (h : impl_CommitFault.f k a0_0 l0_1 a0_2 a0_3 = some r) :
  Calls Tryz.prog 97 #[.agg #[.string a0_0, .slice A0_1 l0_1.length c0_1, .int .i64 a0_2, .string a0_3]] w fun e w' => e = .returned (.int .i64 r) ∧ Below w.heap.size w w' := by
 have hu60 := Tryz.underlying60
 have HR0_1 := zK hr0_1
 have HC0_1 := zK hc0_1
 clear hr0_1 hc0_1
 have HB := zK (Below.refl w.heap.size w)
 have H : ((impl_isIdOf.f 2 a0_0).bind fun t311 => (if t311 = true then (if (l0_1.length : Int) > 3 then (some 2) else (impl_CommitFault.l0 k l0_1 (l0_1.length : Int) 0 a0_0 l0_1 a0_2 a0_3)) else (some 1))) = some r := h
 clear h
 replace H := Option.bind_eq_some_iff.mp H
 obtain ⟨t311, A20, H⟩ := H
 replace H : (if t311 = true then (if (l0_1.length : Int) > 3 then (some 2) else (impl_CommitFault.l0 k l0_1 (l0_1.length : Int) 0 a0_0 l0_1 a0_2 a0_3)) else (some 1)) = some r := H
 have A2 := zK A20
 clear A20
 by_cases c3 : t311 = true
 ·
  subst c3
  have H1 : (if (l0_1.length : Int) > 3 then (some 2) else (impl_CommitFault.l0 k l0_1 (l0_1.length : Int) 0 a0_0 l0_1 a0_2 a0_3)) = some r := by rw [if_pos rfl] at H; exact H
  clear H
  have H := H1
  clear H1
  by_cases c4 : (l0_1.length : Int) > 3
  ·
   rw [if_pos c4] at H
   have c4b0 : decide (3 < (l0_1.length : Int)) = true := decide_eq_true c4
   have c4b1 : decide (3 < l0_1.length) = true := decide_eq_true zq7
   clear c4
   obtain rfl := Option.some.inj H
   go_enter Tryz.func97, Tryz.ntmps97
   go_wp2_with (first | ((with_reducible refine gate_dst (N := 1) rfl ?_); refine box_event ?hg (N := 1) ?hd (cs := #[.string a0_0, .slice A0_1 l0_1.length c0_1, .int .i64 a0_2, .string a0_3]) (t := 60) ?hr ?_; (case hd => rfl); (case hg => rfl); (case hr => first | (go_simp; done) | (go_simp; rfl)); intro gb310 hg w5 hbox hb; have n0_ := zK (below_step zq0 hb); have n1_ := zK (hbox); have n2_ := zK ((by rw [hg]; exact (below_size zq0) : w.heap.size ≤ gb310)); have n3_ := zK ((by rw [hg]; exact (below_size zq0) : w.heap.size ≤ gb310)); clear HB; have HB := n0_; have BK310 := n1_; have GW310 := n2_; have GE310 := n3_; clear n0_ n1_ n2_ n3_; clear hb hbox hg; have hcz6_0 : w5.cell? ⟨gb310, 0, none⟩ = some (.string a0_0) := (blk_cell BK310.out 0).trans rfl; have hcz6_1 : w5.cell? ⟨gb310, 1, none⟩ = some (.slice A0_1 l0_1.length c0_1) := (blk_cell BK310.out 1).trans rfl; have hcz6_2 : w5.cell? ⟨gb310, 2, none⟩ = some (.int .i64 a0_2) := (blk_cell BK310.out 2).trans rfl; have hcz6_3 : w5.cell? ⟨gb310, 3, none⟩ = some (.string a0_3) := (blk_cell BK310.out 3).trans rfl; have hfz6_0 := blk_frozen BK310.out 0; have hfz6_1 := blk_frozen BK310.out 1; have hfz6_2 := blk_frozen BK310.out 2; have hfz6_3 := blk_frozen BK310.out 3) | ((with_reducible refine gate_callee (f := 131) rfl ?_); refine goesL_ (some 8) rfl rfl Tryz.func131 zq6 rfl #[.int .i64 2, .string a0_0] rfl zq1 ?_; (with_reducible refine (impl_isIdOf.calls 2 a0_0 true _ A2.out).mono ?_); rintro e w7 ⟨rfl, hb⟩; refine ⟨_, rfl, ?_⟩; have n0_ := zK (blk_below (g := gb310) (o := .cells #[.string a0_0, .slice A0_1 l0_1.length c0_1, .int .i64 a0_2, .string a0_3] 60 (0, 0)) (by (with_reducible repeat (first | refine zM ?_ _ | refine zP ?_ | refine zQ ?_ _)); exact BK310.out) hb); have n1_ := zK (below_step (by repeat (first | (with_reducible first | exact HB.out | apply zA | apply zN | apply zD | refine below_set ?_ GE310.out) | exact HB.out)) hb); clear BK310; clear HB; have BK310 := n0_; have HB := n1_; clear n0_ n1_; (try clear hb); (try clear hb2); (try clear hk); (try clear hi); have hcz8_0 : w7.cell? ⟨gb310, 0, none⟩ = some (.string a0_0) := (blk_cell BK310.out 0).trans rfl; have hcz8_1 : w7.cell? ⟨gb310, 1, none⟩ = some (.slice A0_1 l0_1.length c0_1) := (blk_cell BK310.out 1).trans rfl; have hcz8_2 : w7.cell? ⟨gb310, 2, none⟩ = some (.int .i64 a0_2) := (blk_cell BK310.out 2).trans rfl; have hcz8_3 : w7.cell? ⟨gb310, 3, none⟩ = some (.string a0_3) := (blk_cell BK310.out 3).trans rfl; have hfz8_0 := blk_frozen BK310.out 0; have hfz8_1 := blk_frozen BK310.out 1; have hfz8_2 := blk_frozen BK310.out 2; have hfz8_3 := blk_frozen BK310.out 3))
   go_ret
   exact ⟨zq3, (by repeat (first | (with_reducible first | exact HB.out | apply zA | apply zN | apply zD | refine below_set ?_ GE310.out) | exact HB.out))⟩
  rw [if_neg c4] at H
  have c4b0 : decide (3 < (l0_1.length : Int)) = false := decide_eq_false c4
  have c4b1 : decide (3 < l0_1.length) = false := decide_eq_false zq7
  clear c4
  have H' := zK H
  clear H
  go_enter Tryz.func97, Tryz.ntmps97
  go_wp2_with (first | ((with_reducible refine gate_dst (N := 1) rfl ?_); refine box_event ?hg (N := 1) ?hd (cs := #[.string a0_0, .slice A0_1 l0_1.length c0_1, .int .i64 a0_2, .string a0_3]) (t := 60) ?hr ?_; (case hd => rfl); (case hg => rfl); (case hr => first | (go_simp; done) | (go_simp; rfl)); intro gb310 hg w9 hbox hb; have n0_ := zK (below_step zq0 hb); have n1_ := zK (hbox); have n2_ := zK ((by rw [hg]; exact (below_size zq0) : w.heap.size ≤ gb310)); have n3_ := zK ((by rw [hg]; exact (below_size zq0) : w.heap.size ≤ gb310)); clear HB; have HB := n0_; have BK310 := n1_; have GW310 := n2_; have GE310 := n3_; clear n0_ n1_ n2_ n3_; clear hb hbox hg; have hcz10_0 : w9.cell? ⟨gb310, 0, none⟩ = some (.string a0_0) := (blk_cell BK310.out 0).trans rfl; have hcz10_1 : w9.cell? ⟨gb310, 1, none⟩ = some (.slice A0_1 l0_1.length c0_1) := (blk_cell BK310.out 1).trans rfl; have hcz10_2 : w9.cell? ⟨gb310, 2, none⟩ = some (.int .i64 a0_2) := (blk_cell BK310.out 2).trans rfl; have hcz10_3 : w9.cell? ⟨gb310, 3, none⟩ = some (.string a0_3) := (blk_cell BK310.out 3).trans rfl; have hfz10_0 := blk_frozen BK310.out 0; have hfz10_1 := blk_frozen BK310.out 1; have hfz10_2 := blk_frozen BK310.out 2; have hfz10_3 := blk_frozen BK310.out 3) | ((with_reducible refine gate_callee (f := 131) rfl ?_); refine goesL_ (some 8) rfl rfl Tryz.func131 zq6 rfl #[.int .i64 2, .string a0_0] rfl zq1 ?_; (with_reducible refine (impl_isIdOf.calls 2 a0_0 true _ A2.out).mono ?_); rintro e w11 ⟨rfl, hb⟩; refine ⟨_, rfl, ?_⟩; have n0_ := zK (blk_below (g := gb310) (o := .cells #[.string a0_0, .slice A0_1 l0_1.length c0_1, .int .i64 a0_2, .string a0_3] 60 (0, 0)) (by (with_reducible repeat (first | refine zM ?_ _ | refine zP ?_ | refine zQ ?_ _)); exact BK310.out) hb); have n1_ := zK (below_step (by repeat (first | (with_reducible first | exact HB.out | apply zA | apply zN | apply zD | refine below_set ?_ GE310.out) | exact HB.out)) hb); clear BK310; clear HB; have BK310 := n0_; have HB := n1_; clear n0_ n1_; (try clear hb); (try clear hb2); (try clear hk); (try clear hi); have hcz12_0 : w11.cell? ⟨gb310, 0, none⟩ = some (.string a0_0) := (blk_cell BK310.out 0).trans rfl; have hcz12_1 : w11.cell? ⟨gb310, 1, none⟩ = some (.slice A0_1 l0_1.length c0_1) := (blk_cell BK310.out 1).trans rfl; have hcz12_2 : w11.cell? ⟨gb310, 2, none⟩ = some (.int .i64 a0_2) := (blk_cell BK310.out 2).trans rfl; have hcz12_3 : w11.cell? ⟨gb310, 3, none⟩ = some (.string a0_3) := (blk_cell BK310.out 3).trans rfl; have hfz12_0 := blk_frozen BK310.out 0; have hfz12_1 := blk_frozen BK310.out 1; have hfz12_2 := blk_frozen BK310.out 2; have hfz12_3 := blk_frozen BK310.out 3))
  go_loopg [18] k (fun kq v18 w' => ∃ (x18_1 : Int), v18 = .int .i64 x18_1 ∧ Aside0 (impl_CommitFault.l0 kq l0_1 (l0_1.length : Int) x18_1 a0_0 l0_1 a0_2 a0_3 = some r) ∧ Aside0 (kq ≤ k) ∧ Aside0 (w'.heap[gb310]? = some (.cells #[.string a0_0, (.slice A0_1 l0_1.length c0_1), .int .i64 a0_2, .string a0_3] 60 (0, 0))) ∧ Aside0 (Below w.heap.size w w'))
  case atStart => exact ⟨(0), zq5, H', ⟨Nat.le_refl _⟩, ⟨by (with_reducible repeat (first | refine zM ?_ _ | refine zP ?_ | refine zQ ?_ _)); exact BK310.out⟩, ⟨by repeat (first | (with_reducible first | exact HB.out | apply zA | apply zN | apply zD | refine below_set ?_ GE310.out) | exact HB.out)⟩⟩
  case round =>
   clear H'
   try clear c1
   try clear p2
   try clear c3
   try clear c4
   try clear c4b0
   try clear c4b1
   try clear c9
   try clear hcz10_0
   try clear hcz10_1
   try clear hcz10_2
   try clear hcz10_3
   try clear hcz12_0
   try clear hcz12_1
   try clear hcz12_2
   try clear hcz12_3
   try clear hcz6_0
   try clear hcz6_1
   try clear hcz6_2
   try clear hcz6_3
   try clear hcz8_0
   try clear hcz8_1
   try clear hcz8_2
   try clear hcz8_3
   try clear hfz10_0
   try clear hfz10_1
   try clear hfz10_2
   try clear hfz10_3
   try clear hfz12_0
   try clear hfz12_1
   try clear hfz12_2
   try clear hfz12_3
   try clear hfz6_0
   try clear hfz6_1
   try clear hfz6_2
   try clear hfz6_3
   try clear hfz8_0
   try clear hfz8_1
   try clear hfz8_2
   try clear hfz8_3
   obtain ⟨x18_1, rfl, HA, HK1, BK310, HB⟩ := hrel
   cases gk with
   | zero => exact absurd HA.out (by simp [impl_CommitFault.l0])
   | succ k1 =>
    have H := HA.out
    clear HA
    simp only [impl_CommitFault.l0] at H
    by_cases c13 : x18_1 < (l0_1.length : Int)
    ·
     rw [if_pos c13] at H
     have c13b0 : decide (x18_1 < (l0_1.length : Int)) = true := decide_eq_true c13
     clear c13
     by_cases c14 : 0 ≤ x18_1
     ·
      rw [if_pos c14] at H
      have c14b0 : decide (0 ≤ x18_1) = true := decide_eq_true c14
      clear c14
      by_cases c15 : x18_1 < (l0_1.length : Int)
      ·
       rw [if_pos c15] at H
       have c15b0 : decide (x18_1 < (l0_1.length : Int)) = true := decide_eq_true c15
       clear c15
       replace H := Option.bind_eq_some_iff.mp H
       obtain ⟨t313, A160, H⟩ := H
       replace H : (if t313 = true then (if x18_1 ≤ (l0_1.length : Int) then ((slices_Contains_string_string.f k1 (l0_1.take (x18_1 : Int).toNat) (rdOf ByteArray.empty l0_1 x18_1)).bind fun t315 => (if t315 = true then (some 1) else (impl_CommitFault.l0 k1 l0_1 (l0_1.length : Int) (wrap64 (x18_1 + 1)) a0_0 l0_1 a0_2 a0_3))) else (none)) else (some 1)) = some r := H
       have A16 := zK A160
       clear A160
       by_cases c17 : t313 = true
       ·
        subst c17
        have H1 : (if x18_1 ≤ (l0_1.length : Int) then ((slices_Contains_string_string.f k1 (l0_1.take (x18_1 : Int).toNat) (rdOf ByteArray.empty l0_1 x18_1)).bind fun t315 => (if t315 = true then (some 1) else (impl_CommitFault.l0 k1 l0_1 (l0_1.length : Int) (wrap64 (x18_1 + 1)) a0_0 l0_1 a0_2 a0_3))) else (none)) = some r := by rw [if_pos rfl] at H; exact H
        clear H
        have H := H1
        clear H1
        have c18b0 := eq_true (zX zq2 : 0 ≤ x18_1)
        by_cases c19 : x18_1 ≤ (l0_1.length : Int)
        ·
         rw [if_pos c19] at H
         have c19b0 := eq_true c19
         have c19b1 : decide (x18_1 ≤ (l0_1.length : Int)) = true := decide_eq_true c19
         clear c19
         replace H := Option.bind_eq_some_iff.mp H
         obtain ⟨t315, A200, H⟩ := H
         replace H : (if t315 = true then (some 1) else (impl_CommitFault.l0 k1 l0_1 (l0_1.length : Int) (wrap64 (x18_1 + 1)) a0_0 l0_1 a0_2 a0_3)) = some r := H
         have A20 := zK A200
         clear A200
         by_cases c21 : t315 = true
         ·
          subst c21
          have H1 : (some 1) = some r := by rw [if_pos rfl] at H; exact H
          clear H
          have H := H1
          clear H1
          obtain rfl := Option.some.inj H
          have p312 : 0 ≤ (x18_1 : Int) := zX zq2
          have q312 : x18_1 < (l0_1.length : Int) := zX zq2
          obtain ⟨ad312, e312, hx312_0⟩ := Kd.at_string HR0_1.out x18_1 p312 q312
          cases e312
          replace hx312_0 := (HB.out.cell (zL w _ hx312_0)).trans hx312_0
          replace p312 := eq_true p312
          replace q312 := eq_true q312
          go_wp2_with (first | ((with_reducible refine gate_callee (f := 131) rfl ?_); refine goesL_ (some 24) rfl rfl Tryz.func131 zq6 rfl #[.int .i64 3, .string (rdOf ByteArray.empty l0_1 x18_1)] rfl zq1 ?_; (with_reducible refine (impl_isIdOf.calls 3 (rdOf ByteArray.empty l0_1 x18_1) true _ A16.out).mono ?_); rintro e w22 ⟨rfl, hb⟩; refine ⟨_, rfl, ?_⟩; have n0_ := zK (blk_below (g := gb310) (o := .cells #[.string a0_0, .slice (some ad312) l0_1.length c0_1, .int .i64 a0_2, .string a0_3] 60 (0, 0)) (by (with_reducible repeat (first | refine zM ?_ _ | refine zP ?_ | refine zQ ?_ _)); exact BK310.out) hb); have n1_ := zK (below_step (by repeat (first | (with_reducible first | exact HB.out | apply zA | apply zN | apply zD | refine below_set ?_ GE310.out) | exact HB.out)) hb); clear BK310; clear HB; have BK310 := n0_; have HB := n1_; clear n0_ n1_; (try clear hb); (try clear hb2); (try clear hk); (try clear hi); have hcz23_0 : w22.cell? ⟨gb310, 0, none⟩ = some (.string a0_0) := (blk_cell BK310.out 0).trans rfl; have hcz23_1 : w22.cell? ⟨gb310, 1, none⟩ = some (.slice (some ad312) l0_1.length c0_1) := (blk_cell BK310.out 1).trans rfl; have hcz23_2 : w22.cell? ⟨gb310, 2, none⟩ = some (.int .i64 a0_2) := (blk_cell BK310.out 2).trans rfl; have hcz23_3 : w22.cell? ⟨gb310, 3, none⟩ = some (.string a0_3) := (blk_cell BK310.out 3).trans rfl; have hfz23_0 := blk_frozen BK310.out 0; have hfz23_1 := blk_frozen BK310.out 1; have hfz23_2 := blk_frozen BK310.out 2; have hfz23_3 := blk_frozen BK310.out 3; obtain ⟨i024, hi024, _, hsz24, _⟩ := info_parts info9; obtain ⟨hcut24, hA24, hC24⟩ := print_take_of (P := Tryz.prog) Value.string (⟨#[]⟩ : ByteArray) 29 9 .i64 Tryz.underlying29 hi024 hsz24 (some ad312) c0_1 l0_1 x18_1 (zX zq2) (zX zq2) HC0_1.out; have HR314 := zK (Kd.C_of_reads (h1 := fun _ => rfl) (hA24 _ (Kd.reads_of_C HR0_1.out))); have HC314 := zK hC24; clear hA24 hC24 hi024 hsz24) | (go_at_call 43; (with_reducible refine (slices_Contains_string_string.callsN k1 _ _ (l0_1.take (x18_1 : Int).toNat) (rdOf ByteArray.empty l0_1 x18_1) true _ ?side1 ?side2 A20.out).mono ?_); (case side1 => repeat (first | exact (Kd.C_below HR314.out HB.out) | (with_reducible refine Kd.C_alloc ?_ _) | (with_reducible refine Kd.C_drewN ?_ _) | (with_reducible refine Kd.C_drew ?_))); (case side2 => exact HC314.out); rintro e w' ⟨rfl, ⟨nd, rfl⟩⟩))
          go_ret
          exact ⟨zq3, (by repeat (first | (with_reducible first | exact HB.out | apply zA | apply zN | apply zD | refine below_set ?_ GE310.out) | exact HB.out))⟩
         replace c21 := Bool.eq_false_iff.mpr c21
         subst c21
         have H1 : (impl_CommitFault.l0 k1 l0_1 (l0_1.length : Int) (wrap64 (x18_1 + 1)) a0_0 l0_1 a0_2 a0_3) = some r := by rw [if_neg (show ¬ (false = true) by decide)] at H; exact H
         clear H
         have H := H1
         clear H1
         have H' := zK H
         clear H
         have p312 : 0 ≤ (x18_1 : Int) := zX zq2
         have q312 : x18_1 < (l0_1.length : Int) := zX zq2
         obtain ⟨ad312, e312, hx312_0⟩ := Kd.at_string HR0_1.out x18_1 p312 q312
         cases e312
         replace hx312_0 := (HB.out.cell (zL w _ hx312_0)).trans hx312_0
         replace p312 := eq_true p312
         replace q312 := eq_true q312
         go_wp2_with (first | ((with_reducible refine gate_callee (f := 131) rfl ?_); refine goesL_ (some 24) rfl rfl Tryz.func131 zq6 rfl #[.int .i64 3, .string (rdOf ByteArray.empty l0_1 x18_1)] rfl zq1 ?_; (with_reducible refine (impl_isIdOf.calls 3 (rdOf ByteArray.empty l0_1 x18_1) true _ A16.out).mono ?_); rintro e w25 ⟨rfl, hb⟩; refine ⟨_, rfl, ?_⟩; have n0_ := zK (blk_below (g := gb310) (o := .cells #[.string a0_0, .slice (some ad312) l0_1.length c0_1, .int .i64 a0_2, .string a0_3] 60 (0, 0)) (by (with_reducible repeat (first | refine zM ?_ _ | refine zP ?_ | refine zQ ?_ _)); exact BK310.out) hb); have n1_ := zK (below_step (by repeat (first | (with_reducible first | exact HB.out | apply zA | apply zN | apply zD | refine below_set ?_ GE310.out) | exact HB.out)) hb); clear BK310; clear HB; have BK310 := n0_; have HB := n1_; clear n0_ n1_; (try clear hb); (try clear hb2); (try clear hk); (try clear hi); have hcz26_0 : w25.cell? ⟨gb310, 0, none⟩ = some (.string a0_0) := (blk_cell BK310.out 0).trans rfl; have hcz26_1 : w25.cell? ⟨gb310, 1, none⟩ = some (.slice (some ad312) l0_1.length c0_1) := (blk_cell BK310.out 1).trans rfl; have hcz26_2 : w25.cell? ⟨gb310, 2, none⟩ = some (.int .i64 a0_2) := (blk_cell BK310.out 2).trans rfl; have hcz26_3 : w25.cell? ⟨gb310, 3, none⟩ = some (.string a0_3) := (blk_cell BK310.out 3).trans rfl; have hfz26_0 := blk_frozen BK310.out 0; have hfz26_1 := blk_frozen BK310.out 1; have hfz26_2 := blk_frozen BK310.out 2; have hfz26_3 := blk_frozen BK310.out 3; obtain ⟨i027, hi027, _, hsz27, _⟩ := info_parts info9; obtain ⟨hcut27, hA27, hC27⟩ := print_take_of (P := Tryz.prog) Value.string (⟨#[]⟩ : ByteArray) 29 9 .i64 Tryz.underlying29 hi027 hsz27 (some ad312) c0_1 l0_1 x18_1 (zX zq2) (zX zq2) HC0_1.out; have HR314 := zK (Kd.C_of_reads (h1 := fun _ => rfl) (hA27 _ (Kd.reads_of_C HR0_1.out))); have HC314 := zK hC27; clear hA27 hC27 hi027 hsz27) | (go_at_call 43; (with_reducible refine (slices_Contains_string_string.callsN k1 _ _ (l0_1.take (x18_1 : Int).toNat) (rdOf ByteArray.empty l0_1 x18_1) false _ ?side1 ?side2 A20.out).mono ?_); (case side1 => repeat (first | exact (Kd.C_below HR314.out HB.out) | (with_reducible refine Kd.C_alloc ?_ _) | (with_reducible refine Kd.C_drewN ?_ _) | (with_reducible refine Kd.C_drew ?_))); (case side2 => exact HC314.out); rintro e w' ⟨rfl, ⟨nd, rfl⟩⟩))
         go_roundg k1
         case measure => have := HK1.out; omega
         case rel => exact ⟨(wrap64 (x18_1 + 1)), zq5, H', ⟨by have := HK1.out; omega⟩, ⟨by (with_reducible repeat (first | refine zM ?_ _ | refine zP ?_ | refine zQ ?_ _)); exact BK310.out⟩, ⟨by repeat (first | (with_reducible first | exact HB.out | apply zA | apply zN | apply zD | refine below_set ?_ GE310.out) | exact HB.out)⟩⟩
        rw [if_neg c19] at H
        exact absurd H zq12
       replace c17 := Bool.eq_false_iff.mpr c17
       subst c17
       have H1 : (some 1) = some r := by rw [if_neg (show ¬ (false = true) by decide)] at H; exact H
       clear H
       have H := H1
       clear H1
       obtain rfl := Option.some.inj H
       have p312 : 0 ≤ (x18_1 : Int) := zX zq2
       have q312 : x18_1 < (l0_1.length : Int) := zX zq2
       obtain ⟨ad312, e312, hx312_0⟩ := Kd.at_string HR0_1.out x18_1 p312 q312
       cases e312
       replace hx312_0 := (HB.out.cell (zL w _ hx312_0)).trans hx312_0
       replace p312 := eq_true p312
       replace q312 := eq_true q312
       go_wp2_with (first | ((with_reducible refine gate_callee (f := 131) rfl ?_); refine goesL_ (some 24) rfl rfl Tryz.func131 zq6 rfl #[.int .i64 3, .string (rdOf ByteArray.empty l0_1 x18_1)] rfl zq1 ?_; (with_reducible refine (impl_isIdOf.calls 3 (rdOf ByteArray.empty l0_1 x18_1) false _ A16.out).mono ?_); rintro e w28 ⟨rfl, hb⟩; refine ⟨_, rfl, ?_⟩; have n0_ := zK (blk_below (g := gb310) (o := .cells #[.string a0_0, .slice (some ad312) l0_1.length c0_1, .int .i64 a0_2, .string a0_3] 60 (0, 0)) (by (with_reducible repeat (first | refine zM ?_ _ | refine zP ?_ | refine zQ ?_ _)); exact BK310.out) hb); have n1_ := zK (below_step (by repeat (first | (with_reducible first | exact HB.out | apply zA | apply zN | apply zD | refine below_set ?_ GE310.out) | exact HB.out)) hb); clear BK310; clear HB; have BK310 := n0_; have HB := n1_; clear n0_ n1_; (try clear hb); (try clear hb2); (try clear hk); (try clear hi)))
       go_ret
       exact ⟨zq3, (by repeat (first | (with_reducible first | exact HB.out | apply zA | apply zN | apply zD | refine below_set ?_ GE310.out) | exact HB.out))⟩
      rw [if_neg c15] at H
      exact absurd H zq12
     rw [if_neg c14] at H
     exact absurd H zq12
    rw [if_neg c13] at H
    have c13b0 : decide (x18_1 < (l0_1.length : Int)) = false := decide_eq_false c13
    clear c13
    replace H := Option.bind_eq_some_iff.mp H
    obtain ⟨t316, A290, H⟩ := H
    replace H : ((impl_codeIf.f (!t316) 3).bind fun t317 => ((impl_isNote.f k1 a0_3).bind fun t318 => ((impl_codeIf.f (!t318) 5).bind fun t319 => ((impl_firstCode.f k1 (([t317, t319] : List Int))).bind fun t323 => (some t323))))) = some r := H
    have A29 := zK A290
    clear A290
    replace H := Option.bind_eq_some_iff.mp H
    obtain ⟨t317, A300, H⟩ := H
    replace H : ((impl_isNote.f k1 a0_3).bind fun t318 => ((impl_codeIf.f (!t318) 5).bind fun t319 => ((impl_firstCode.f k1 (([t317, t319] : List Int))).bind fun t323 => (some t323)))) = some r := H
    have A30 := zK A300
    clear A300
    replace H := Option.bind_eq_some_iff.mp H
    obtain ⟨t318, A310, H⟩ := H
    replace H : ((impl_codeIf.f (!t318) 5).bind fun t319 => ((impl_firstCode.f k1 (([t317, t319] : List Int))).bind fun t323 => (some t323))) = some r := H
    have A31 := zK A310
    clear A310
    replace H := Option.bind_eq_some_iff.mp H
    obtain ⟨t319, A320, H⟩ := H
    replace H : ((impl_firstCode.f k1 (([t317, t319] : List Int))).bind fun t323 => (some t323)) = some r := H
    have A32 := zK A320
    clear A320
    obtain ⟨y320, hy320⟩ : ∃ y_ : List Int, y_ = (([t317, t319] : List Int)) := ⟨_, rfl⟩
    replace H : ((impl_firstCode.f k1 y320).bind fun t323 => (some t323)) = some r := by first | (rw [hy320]; with_reducible exact H) | (have H2_ := (Option.bind_some _ _).symm.trans H; rw [hy320]; with_reducible exact H2_) | (have H2_ := (Option.bind_some _ _).symm.trans H; with_reducible exact H2_) | with_reducible exact H | (rw [hy320]; exact H) | exact H
    have Ny320 := zK hy320
    clear hy320
    replace H := Option.bind_eq_some_iff.mp H
    obtain ⟨t323, A330, H⟩ := H
    replace H : (some t323) = some r := H
    have A33 := zK A330
    clear A330
    obtain rfl := Option.some.inj H
    try go_wp2
    have n0_ := zK (zP BK310.out)
    have n1_ := zK (zD HB.out)
    clear BK310
    clear HB
    have BK310 := n0_
    have HB := n1_
    clear n0_ n1_
    refine start_ (n := 13) (S := fun w' => w'.cell? ⟨gb310, 0, none⟩ = some (.string a0_0) ∧ w'.cell? ⟨gb310, 1, none⟩ = some (.slice A0_1 l0_1.length c0_1) ∧ w'.cell? ⟨gb310, 2, none⟩ = some (.int .i64 a0_2) ∧ w'.cell? ⟨gb310, 3, none⟩ = some (.string a0_3)) (ds := []) #[zF,zF,zF,zF,zF,zF,zF,zF,zF,zF,zF,zF,zF] zq6 rfl rfl ⟨(blk_cell BK310.out 0).trans rfl, (blk_cell BK310.out 1).trans rfl, (blk_cell BK310.out 2).trans rfl, (blk_cell BK310.out 3).trans rfl⟩ (fun hHeld => ?_); refine with_tabW impl_CommitFault.tab11 impl_CommitFault.bits11 (fun HT_ HW_ => ?_)
    generalize wr.drew = w34 at BK310 HB hHeld ⊢
    refine pure_ (i := 0) (N := some 35) (v := ?_) (a' := ?_) #[zB,zF,zF,zF,zF,zF,zF,zF,zF,zF,zF,zF,zF] rfl rfl (any_of HT_.out zq6) (fun _ _ _ h => h) (Or.inl ⟨by rfl, ?_⟩) ?_ ?_
    rotate_left
    ·
     intro w'
     go_simp
     with_reducible rfl
    rotate_left
    ·
     simp only [Act.put, zS, zT, zU, i64_w, i32_w]
     rfl
    refine pure_ (i := 5) (N := some 40) (v := ?_) (a' := ?_) #[zB,zF,zF,zF,zF,zB,zF,zF,zF,zF,zF,zF,zF] rfl rfl (any_of HT_.out zq6) (fun _ _ _ h => h) (Or.inl ⟨by rfl, ?_⟩) ?_ ?_
    rotate_left
    ·
     intro w'
     go_simp
     with_reducible rfl
    rotate_left
    ·
     simp only [Act.put, zS, zT, zU, i64_w, i32_w]
     rfl
    refine take_ (i := 1) (N := some 36) (v := ?_) (a' := ?_) #[zB,zB,zF,zF,zF,zB,zF,zF,zF,zF,zF,zF,zF] rfl rfl (take_ofW HT_.out HW_.out zq6) (fun _ _ _ h => h) (Or.inl ⟨by rfl, ?_⟩) hHeld ?_ ?_
    rotate_left
    ·
     rintro w' ⟨s0, s1, s2, s3⟩
     go_simp
     with_reducible rfl
    rotate_left
    ·
     simp only [Act.put, zS, zT, zU, i64_w, i32_w]
     rfl
    refine take_ (i := 6) (N := some 41) (v := ?_) (a' := ?_) #[zB,zB,zF,zF,zF,zB,zB,zF,zF,zF,zF,zF,zF] rfl rfl (take_ofW HT_.out HW_.out zq6) (fun _ _ _ h => h) (Or.inl ⟨by rfl, ?_⟩) hHeld ?_ ?_
    rotate_left
    ·
     rintro w' ⟨s0, s1, s2, s3⟩
     go_simp
     with_reducible rfl
    rotate_left
    ·
     simp only [Act.put, zS, zT, zU, i64_w, i32_w]
     rfl
    refine one_ (i := 2) (N := some 37) #[zB,zB,zB,zF,zF,zB,zB,zF,zF,zF,zF,zF,zF] rfl rfl (one_of HT_.out zq6) zq9 (fun K hK => ?_)
    refine goes_ Tryz.func117 zq6 rfl #[.int .i64 a0_2, .int .i64 0, .int .i64 1000000000] zq19 rfl rfl zq1 ?_
    with_reducible refine (impl_within.calls a0_2 0 1000000000 t316 _ A29.out).mono ?_
    rintro e w' ⟨rfl, ⟨nd, rfl⟩⟩
    refine ⟨_, rfl, ?_⟩
    refine hK.out _ _ ⟨(blk_cell BK310.out 0).trans rfl, (blk_cell BK310.out 1).trans rfl, (blk_cell BK310.out 2).trans rfl, (blk_cell BK310.out 3).trans rfl⟩ (fun hHeld => ?_)
    clear hK K
    refine norm_ (a' := ?_) ?_ ?_
    rotate_left
    ·
     show Act.put _ (some 37) _ = _
     simp only [Act.put, zS, zT, zU, i64_w, i32_w]
     rfl
    refine pure_ (i := 3) (N := some 38) (v := ?_) (a' := ?_) #[zB,zB,zB,zB,zF,zB,zB,zF,zF,zF,zF,zF,zF] rfl rfl (any_of HT_.out zq6) (fun _ _ _ h => h) (Or.inl ⟨by rfl, ?_⟩) ?_ ?_
    rotate_left
    ·
     intro w'
     go_simp
     with_reducible rfl
    rotate_left
    ·
     simp only [Act.put, zS, zT, zU, i64_w, i32_w]
     rfl
    refine one_ (i := 4) (N := some 39) #[zB,zB,zB,zB,zB,zB,zB,zF,zF,zF,zF,zF,zF] rfl rfl (one_of HT_.out zq6) zq9 (fun K hK => ?_)
    refine goes_ Tryz.func81 zq6 rfl #[.bool (!t316), .int .i64 3] zq19 rfl rfl zq1 ?_
    with_reducible refine (impl_codeIf.calls (!t316) 3 t317 _ A30.out).mono ?_
    rintro e w' ⟨rfl, ⟨nd, rfl⟩⟩
    refine ⟨_, rfl, ?_⟩
    refine hK.out _ _ ⟨(blk_cell BK310.out 0).trans rfl, (blk_cell BK310.out 1).trans rfl, (blk_cell BK310.out 2).trans rfl, (blk_cell BK310.out 3).trans rfl⟩ (fun hHeld => ?_)
    clear hK K
    refine norm_ (a' := ?_) ?_ ?_
    rotate_left
    ·
     show Act.put _ (some 39) _ = _
     simp only [Act.put, zS, zT, zU, i64_w, i32_w]
     rfl
    refine one_ (i := 7) (N := some 42) #[zB,zB,zB,zB,zB,zB,zB,zB,zF,zF,zF,zF,zF] rfl rfl (one_of HT_.out zq6) zq9 (fun K hK => ?_)
    refine goes_ Tryz.func132 zq6 rfl #[.string a0_3] zq19 rfl rfl zq1 ?_
    with_reducible refine (impl_isNote.calls k1 a0_3 t318 _ A31.out).mono ?_
    rintro e w' ⟨rfl, ⟨nd, rfl⟩⟩
    refine ⟨_, rfl, ?_⟩
    refine hK.out _ _ ⟨(blk_cell BK310.out 0).trans rfl, (blk_cell BK310.out 1).trans rfl, (blk_cell BK310.out 2).trans rfl, (blk_cell BK310.out 3).trans rfl⟩ (fun hHeld => ?_)
    clear hK K
    refine norm_ (a' := ?_) ?_ ?_
    rotate_left
    ·
     show Act.put _ (some 42) _ = _
     simp only [Act.put, zS, zT, zU, i64_w, i32_w]
     rfl
    refine pure_ (i := 8) (N := some 43) (v := ?_) (a' := ?_) #[zB,zB,zB,zB,zB,zB,zB,zB,zB,zF,zF,zF,zF] rfl rfl (any_of HT_.out zq6) (fun _ _ _ h => h) (Or.inl ⟨by rfl, ?_⟩) ?_ ?_
    rotate_left
    ·
     intro w'
     go_simp
     with_reducible rfl
    rotate_left
    ·
     simp only [Act.put, zS, zT, zU, i64_w, i32_w]
     rfl
    refine one_ (i := 9) (N := some 44) #[zB,zB,zB,zB,zB,zB,zB,zB,zB,zB,zF,zF,zF] rfl rfl (one_of HT_.out zq6) zq9 (fun K hK => ?_)
    refine goes_ Tryz.func81 zq6 rfl #[.bool (!t318), .int .i64 5] zq19 rfl rfl zq1 ?_
    with_reducible refine (impl_codeIf.calls (!t318) 5 t319 _ A32.out).mono ?_
    rintro e w' ⟨rfl, ⟨nd, rfl⟩⟩
    refine ⟨_, rfl, ?_⟩
    refine hK.out _ _ ⟨(blk_cell BK310.out 0).trans rfl, (blk_cell BK310.out 1).trans rfl, (blk_cell BK310.out 2).trans rfl, (blk_cell BK310.out 3).trans rfl⟩ (fun hHeld => ?_)
    clear hK K
    refine norm_ (a' := ?_) ?_ ?_
    rotate_left
    ·
     show Act.put _ (some 44) _ = _
     simp only [Act.put, zS, zT, zU, i64_w, i32_w]
     rfl
    refine one_ (i := 10) (N := some 45) #[zB,zB,zB,zB,zB,zB,zB,zB,zB,zB,zB,zF,zF] rfl rfl (one_of HT_.out zq6) zq9 (fun K hK => ?_)
    refine Kd.R_lit_step (Kd.int .i64) _ 2 ?hg (N := 45) ?hd (xs := ([t317, t319] : List Int)) (inner := [.int .i64 t317, .int .i64 t319]) (ok := fun _ => True) (okp := fun _ => True) ?hr ?hp (fun _ hk => hk) trivial (Below.refl _ _) (Nat.le_refl _) zq12 ?_; (case hd => rfl); (case hg => rfl); (case hr => first | (go_simp; done) | (go_simp; rfl)); (case hp => exact (Reps.one (show Kd.M (Kd.int .i64) _ _ _ t317 [.int .i64 t317] from rfl) (Reps.one (show Kd.M (Kd.int .i64) _ _ _ t319 [.int .i64 t319] from rfl) (Reps.none _ _))))
    intro v321 w35 ho36 hb hg_ hnew_
    clear hg_ hnew_
    (first | rw [← Ny320.out] at ho36 | (simp only [Int.reduceToNat] at ho36; rw [← Ny320.out] at ho36))
    have n0_ := zK (Kd.R_lower ho36 (below_size (by repeat (first | (with_reducible first | exact HB.out | apply zA | apply zN | apply zD | refine below_set ?_ GE310.out) | exact HB.out))))
    have n1_ := zK (blk_below (g := gb310) (o := .cells #[.string a0_0, .slice A0_1 l0_1.length c0_1, .int .i64 a0_2, .string a0_3] 60 (0, 0)) (by (with_reducible repeat (first | refine zM ?_ _ | refine zP ?_ | refine zQ ?_ _)); exact BK310.out) hb)
    have n2_ := zK (below_step (by repeat (first | (with_reducible first | exact HB.out | apply zA | apply zN | apply zD | refine below_set ?_ GE310.out) | exact HB.out)) hb)
    clear BK310
    clear HB
    have HO322 := n0_
    have BK310 := n1_
    have HB := n2_
    clear n0_ n1_ n2_
    clear hb ho36
    obtain ⟨Ao37, co37, eo37⟩ := Kd.R_slice HO322.out
    (first | subst eo37 | (injection eo37 with f1_ f2_ f3_; have f4_ := f1_.symm; have f5_ := f3_.symm; clear f1_ f2_ f3_; subst f4_; subst f5_))
    refine hK.out _ _ ⟨(blk_cell BK310.out 0).trans rfl, (blk_cell BK310.out 1).trans rfl, (blk_cell BK310.out 2).trans rfl, (blk_cell BK310.out 3).trans rfl⟩ (fun hHeld => ?_)
    clear hK K
    refine norm_ (a' := ?_) ?_ ?_
    rotate_left
    ·
     show Act.put _ (some 45) _ = _
     simp only [Act.put, zS, zT, zU, i64_w, i32_w]
     rfl
    refine one_ (i := 11) (N := some 46) #[zB,zB,zB,zB,zB,zB,zB,zB,zB,zB,zB,zB,zF] rfl rfl (one_of HT_.out zq6) zq9 (fun K hK => ?_)
    refine goes_ Tryz.func68 zq6 rfl #[.slice Ao37 y320.length co37] zq19 rfl rfl zq1 ?_
    with_reducible refine (impl_firstCode.calls k1 _ _ y320 t323 _ ?side1 ?side2 A33.out).mono ?_
    (case side1 => repeat (first | exact (Kd.R_reads' HO322.out).2.2 | (with_reducible refine Kd.C_alloc ?_ _) | (with_reducible refine Kd.C_drewN ?_ _) | (with_reducible refine Kd.C_drew ?_)))
    (case side2 => exact (Kd.R_reads' HO322.out).2.1)
    rintro e w' ⟨rfl, ⟨nd, rfl⟩⟩
    refine ⟨_, rfl, ?_⟩
    refine hK.out _ _ ⟨(blk_cell BK310.out 0).trans rfl, (blk_cell BK310.out 1).trans rfl, (blk_cell BK310.out 2).trans rfl, (blk_cell BK310.out 3).trans rfl⟩ (fun hHeld => ?_)
    clear hK K
    refine norm_ (a' := ?_) ?_ ?_
    rotate_left
    ·
     show Act.put _ (some 46) _ = _
     simp only [Act.put, zS, zT, zU, i64_w, i32_w]
     rfl
    refine pure_ (i := 12) (N := some 2) (v := ?_) (a' := ?_) #[zB,zB,zB,zB,zB,zB,zB,zB,zB,zB,zB,zB,zB] rfl rfl (any_of HT_.out zq6) (fun _ _ _ h => h) (Or.inl ⟨by rfl, ?_⟩) ?_ ?_
    rotate_left
    ·
     intro w'
     go_simp
     with_reducible rfl
    rotate_left
    ·
     simp only [Act.put, zS, zT, zU, i64_w, i32_w]
     rfl
    refine done_ (done_of HT_.out zq6) ?_
    try go_wp2
    go_ret
    exact ⟨zq3, (by repeat (first | (with_reducible first | exact HB.out | apply zA | apply zN | apply zD | refine below_set ?_ GE310.out) | exact HB.out))⟩
 replace c3 := Bool.eq_false_iff.mpr c3
 subst c3
 have H1 : (some 1) = some r := by rw [if_neg (show ¬ (false = true) by decide)] at H; exact H
 clear H
 have H := H1
 clear H1
 obtain rfl := Option.some.inj H
 go_enter Tryz.func97, Tryz.ntmps97
 go_wp2_with (first | ((with_reducible refine gate_dst (N := 1) rfl ?_); refine box_event ?hg (N := 1) ?hd (cs := #[.string a0_0, .slice A0_1 l0_1.length c0_1, .int .i64 a0_2, .string a0_3]) (t := 60) ?hr ?_; (case hd => rfl); (case hg => rfl); (case hr => first | (go_simp; done) | (go_simp; rfl)); intro gb310 hg w38 hbox hb; have n0_ := zK (below_step zq0 hb); have n1_ := zK (hbox); have n2_ := zK ((by rw [hg]; exact (below_size zq0) : w.heap.size ≤ gb310)); have n3_ := zK ((by rw [hg]; exact (below_size zq0) : w.heap.size ≤ gb310)); clear HB; have HB := n0_; have BK310 := n1_; have GW310 := n2_; have GE310 := n3_; clear n0_ n1_ n2_ n3_; clear hb hbox hg; have hcz39_0 : w38.cell? ⟨gb310, 0, none⟩ = some (.string a0_0) := (blk_cell BK310.out 0).trans rfl; have hcz39_1 : w38.cell? ⟨gb310, 1, none⟩ = some (.slice A0_1 l0_1.length c0_1) := (blk_cell BK310.out 1).trans rfl; have hcz39_2 : w38.cell? ⟨gb310, 2, none⟩ = some (.int .i64 a0_2) := (blk_cell BK310.out 2).trans rfl; have hcz39_3 : w38.cell? ⟨gb310, 3, none⟩ = some (.string a0_3) := (blk_cell BK310.out 3).trans rfl; have hfz39_0 := blk_frozen BK310.out 0; have hfz39_1 := blk_frozen BK310.out 1; have hfz39_2 := blk_frozen BK310.out 2; have hfz39_3 := blk_frozen BK310.out 3) | ((with_reducible refine gate_callee (f := 131) rfl ?_); refine goesL_ (some 8) rfl rfl Tryz.func131 zq6 rfl #[.int .i64 2, .string a0_0] rfl zq1 ?_; (with_reducible refine (impl_isIdOf.calls 2 a0_0 false _ A2.out).mono ?_); rintro e w40 ⟨rfl, hb⟩; refine ⟨_, rfl, ?_⟩; have n0_ := zK (blk_below (g := gb310) (o := .cells #[.string a0_0, .slice A0_1 l0_1.length c0_1, .int .i64 a0_2, .string a0_3] 60 (0, 0)) (by (with_reducible repeat (first | refine zM ?_ _ | refine zP ?_ | refine zQ ?_ _)); exact BK310.out) hb); have n1_ := zK (below_step (by repeat (first | (with_reducible first | exact HB.out | apply zA | apply zN | apply zD | refine below_set ?_ GE310.out) | exact HB.out)) hb); clear BK310; clear HB; have BK310 := n0_; have HB := n1_; clear n0_ n1_; (try clear hb); (try clear hb2); (try clear hk); (try clear hi)))
 go_ret
 exact ⟨zq3, (by repeat (first | (with_reducible first | exact HB.out | apply zA | apply zN | apply zD | refine below_set ?_ GE310.out) | exact HB.out))⟩
end Go.Proofs.YtpnoghcdfbmpoaaGreatDoor.PX

namespace Go.Proofs.YtpnoghcdfbmpoaaGreatDoorX
open Go Go.RowKit Go.Proofs.YtpnoghcdfbmpoaaGreatDoorW.PrintWords Go.Proofs.YtpnoghcdfbmpoaaGreatDoor.PX
def hexD (b : UInt8) : Bool := decide (48 ≤ b.toNat ∧ b.toNat ≤ 57 ∨ 97 ≤ b.toNat ∧ b.toNat ≤ 102)
def isIdM : List UInt8 → Bool
 | [a, b, c, d, e] => (a == 98 || a == 116 || a == 99) && (hexD b && (hexD c && (hexD d && hexD e)))
 | _ => false
theorem five {s : ByteArray} (h : s.size = 5) : ∃ a b c d e, s.data.toList = [a, b, c, d, e] := by
 rw [size_list] at h
 match hl : s.data.toList, h with
 | [a, b, c, d, e], _ => exact ⟨a, b, c, d, e, rfl⟩
theorem isIdM_len {l : List UInt8} (h : l.length ≠ 5) : isIdM l = false := by
 match l, h with
 | [], _ => rfl
 | [_], _ => rfl
 | [_, _], _ => rfl
 | [_, _, _], _ => rfl
 | [_, _, _, _], _ => rfl
 | [_, _, _, _, _], h => exact absurd rfl h
 | _ :: _ :: _ :: _ :: _ :: _ :: _, _ => rfl
def hexStep (s : ByteArray) (i : Nat) (_ : Unit) : Sum Bool Unit := if hexD (s.data.toList.getD (i + 1) 0) = true then .inr () else .inl false
theorem spec_hex (s : ByteArray) (hs : s.size = 5) (k : Nat) (hk : 4 < k) : spec_IsId.l0 k s 1 = some (run (hexStep s) (fun _ => true) 4 0 ()) := by
 refine loop0 (F := fun k i (_ : Unit) => spec_IsId.l0 k s ((i : Int) + 1)) 4 0 (fun _ _ => True) (fun _ _ _ _ _ _ => trivial) (fun k i _ _ hi _ => ?_) (fun k _ _ _ => ?_) () trivial k zq7
 · simp only [spec_IsId.l0]
   rw [if_pos zq7, if_pos zq7, if_pos zq7, wrap_in zq7 zq7, show ((i : Int) + 1) = ((i + 1 : Nat) : Int) from rfl, bt_nat]
   unfold hexStep hexD
   have hb := (s.data.toList.getD (i + 1) 0).toNat_lt
   generalize (s.data.toList.getD (i + 1) 0).toNat = n at *
   by_cases h1 : 48 ≤ n ∧ n ≤ 57 ∨ 97 ≤ n ∧ n ≤ 102
   · rw [if_pos (decide_eq_true h1)]
     dsimp only
     (repeat' split) <;> first | rfl | (exfalso; omega)
   · rw [if_neg (fun h => h1 (of_decide_eq_true h))]
     dsimp only
     (repeat' split) <;> first | rfl | (exfalso; omega)
 · simp only [spec_IsId.l0]
   rw [if_neg zq7]
theorem spec_isId (s : ByteArray) (k : Nat) (hk : 8 ≤ k) : spec_IsId.f k s = some (isIdM s.data.toList) := by
 unfold spec_IsId.f
 obtain ⟨k, rfl⟩ : ∃ m, k = m + 1 := ⟨k - 1, by omega⟩
 by_cases h : s.size = 5
 · obtain ⟨a, b, c, d, e, hl⟩ := five h
   rw [if_pos zq7, if_pos zq7]
   have e0 : bt s 0 = (a.toNat : Int) := by have := bt_nat s 0; rw [hl] at this; exact this
   have hx : ∀ x, spec_IsId.j0 (k + 1) s x = some (if x = true then false else hexD b && (hexD c && (hexD d && hexD e))) := by
    intro x
    simp only [spec_IsId.j0]
    cases x with
    | true => rfl
    | false =>
      rw [if_neg zq9, spec_hex s h k zq7, if_neg zq9]
      congr 1
      have g : ∀ i, s.data.toList.getD i 0 = [a, b, c, d, e].getD i 0 := fun i => by rw [hl]
      cases hb : hexD b
      · rw [run_out (r := false) (by unfold hexStep; rw [g]; simp [hb])]; rfl
      rw [run_on (s' := ()) (by unfold hexStep; rw [g]; simp [hb])]
      cases hc : hexD c
      · rw [run_out (r := false) (by unfold hexStep; rw [g]; simp [hc])]; rfl
      rw [run_on (s' := ()) (by unfold hexStep; rw [g]; simp [hc])]
      cases hd : hexD d
      · rw [run_out (r := false) (by unfold hexStep; rw [g]; simp [hd])]; rfl
      rw [run_on (s' := ()) (by unfold hexStep; rw [g]; simp [hd])]
      cases he : hexD e
      · rw [run_out (r := false) (by unfold hexStep; rw [g]; simp [he])]; rfl
      rw [run_on (s' := ()) (by unfold hexStep; rw [g]; simp [he])]
      rfl
   simp only [hx, hl, e0, Bool.false_eq_true, if_false]
   have q : ∀ n : Nat, n < 256 → ((a.toNat : Int) = (n : Int) ↔ a = n.toUInt8) := by
    intro n hn
    constructor
    · intro h
      apply UInt8.toNat_inj.1
      rw [UInt8.toNat_ofNat']
      omega
    · intro h
      rw [h, UInt8.toNat_ofNat']
      omega
   simp only [isIdM]
   have q1 := q 98 zq7; have q2 := q 116 zq7; have q3 := q 99 zq7
   by_cases h1 : (a.toNat : Int) = 98
   · rw [if_pos h1]; have := q1.1 h1; subst this; rfl
   · rw [if_neg h1]
     by_cases h2 : (a.toNat : Int) = 116
     · rw [if_pos h2]; have := q2.1 h2; subst this; rfl
     · rw [if_neg h2]
       have n1 : (a == 98) = false := beq_eq_false_iff_ne.2 (fun e => h1 (q1.2 e))
       have n2 : (a == 116) = false := beq_eq_false_iff_ne.2 (fun e => h2 (q2.2 e))
       rw [n1, n2]
       by_cases h3 : (a.toNat : Int) = 99
       · have := q3.1 h3; subst this; rfl
       · have n3 : (a == 99) = false := beq_eq_false_iff_ne.2 (fun e => h3 (q3.2 e))
         rw [n3, show ((a.toNat : Int) != 99) = true from bne_iff_ne.2 h3]
         rfl
 · rw [if_neg zq7]
   simp only [spec_IsId.j0]
   rw [isIdM_len (by rw [← size_list]; exact h)]
   rfl
theorem trimS_nil (l cs : List UInt8) : Lib.trimS l cs = [] ↔ ∀ b ∈ l, cs.contains b = true := by
 have hd : ∀ m : List UInt8, m.dropWhile (cs.contains ·) = [] ↔ ∀ b ∈ m, cs.contains b = true := by
  intro m
  induction m with
  | nil => simp
  | cons x m ih =>
    rw [List.dropWhile_cons]
    by_cases hx : cs.contains x = true
    · rw [if_pos hx, ih]
      constructor
      · intro h b hb
        rcases List.mem_cons.1 hb with rfl | hb
        · exact hx
        · exact h b hb
      · intro h b hb
        exact h b (List.mem_cons_of_mem _ hb)
    · rw [if_neg hx]
      constructor
      · intro h; cases h
      · intro h; exact absurd (h x List.mem_cons_self) hx
 unfold Lib.trimS Lib.trimLeftS Lib.trimRightS
 rw [hd]
 constructor
 · intro h b hb
   have : l.reverse.dropWhile (cs.contains ·) = [] := by
    cases hm : l.reverse.dropWhile (cs.contains ·) with
    | nil => rfl
    | cons x m =>
      exfalso
      have h1 := h x (by rw [hm]; simp)
      have h2 : ∀ (p : List UInt8), p.dropWhile (cs.contains ·) = x :: m → cs.contains x = false := by
       intro p
       induction p with
       | nil => intro h; simp at h
       | cons y p ih =>
         intro h
         rw [List.dropWhile_cons] at h
         by_cases hy : cs.contains y = true
         · rw [if_pos hy] at h; exact ih h
         · rw [if_neg hy] at h
           injection h with h _
           subst h
           simpa using hy
      have := h2 _ hm
      rw [this] at h1
      cases h1
   exact (hd _).1 this b (List.mem_reverse.2 hb)
 · intro h b hb
   have hm : b ∈ l.reverse := (List.dropWhile_sublist _).subset (List.mem_reverse.1 hb)
   exact h b (List.mem_reverse.1 hm)
theorem hexD_in (b : UInt8) : ([48, 49, 50, 51, 52, 53, 54, 55, 56, 57, 97, 98, 99, 100, 101, 102] : List UInt8).contains b = hexD b := by
 have key : ∀ n : Fin 256, ([48, 49, 50, 51, 52, 53, 54, 55, 56, 57, 97, 98, 99, 100, 101, 102] : List UInt8).contains (UInt8.ofNat n.val) = hexD (UInt8.ofNat n.val) := by decide +kernel
 have := key ⟨b.toNat, b.toNat_lt⟩
 simpa using this
theorem impl_isId (s : ByteArray) : impl_IsId.f s = some (isIdM s.data.toList) := by
 unfold impl_IsId.f
 by_cases h : s.size = 5
 · obtain ⟨a, b, c, d, e, hl⟩ := five h
   have e0 : bt s 0 = (a.toNat : Int) := by have := bt_nat s 0; rw [hl] at this; exact this
   rw [if_pos zq7, if_pos zq7]
   unfold strings_IndexByte.f strings_Trim.f
   simp only [Option.bind_some]
   have hx : (s.extract 1 s.size).data.toList = [b, c, d, e] := by
    rw [Lib.extract_data, hl, h]
    rfl
   have hsz : (s.extract 1 s.size).size = 4 := by rw [size_list, hx]; rfl
   have ea : (bt s 0).toNat.toUInt8 = a := by rw [e0, Int.toNat_natCast]; simp
   have et : ((⟨(Lib.trimS (s.extract 1 s.size).data.toList (⟨#[48, 49, 50, 51, 52, 53, 54, 55, 56, 57, 97, 98, 99, 100, 101, 102]⟩ : ByteArray).data.toList).toArray⟩ : ByteArray).toList == ([] : List UInt8)) = (hexD b && (hexD c && (hexD d && hexD e))) := by
    rw [toList_eq, hx, Bool.eq_iff_iff, beq_iff_eq]
    show Lib.trimS [b, c, d, e] [48, 49, 50, 51, 52, 53, 54, 55, 56, 57, 97, 98, 99, 100, 101, 102] = [] ↔ _
    rw [trimS_nil]
    simp only [hexD_in]
    simp
   have hi : (Lib.indexByte [98, 116, 99] a < 0) ↔ (a == 98 || a == 116 || a == 99) = false := by
    have key : ∀ n : Fin 256, (Lib.indexByte [98, 116, 99] (UInt8.ofNat n.val) < 0) ↔ (UInt8.ofNat n.val == 98 || UInt8.ofNat n.val == 116 || UInt8.ofNat n.val == 99) = false := by decide +kernel
    have := key ⟨a.toNat, a.toNat_lt⟩
    simpa using this
   rw [ea, hl]
   show (if Lib.indexByte [98, 116, 99] a < 0 then _ else _) = _
   by_cases hc : (a == 98 || a == 116 || a == 99) = false
   · rw [if_pos (hi.2 hc)]; simp only [isIdM, hc]; rfl
   · rw [if_neg (fun z => hc (hi.1 z)), if_pos zq7, if_pos zq7, if_pos zq9, if_pos zq9]
     simp only [Option.bind_some, isIdM]
     rw [et, show (a == 98 || a == 116 || a == 99) = true by revert hc; cases (a == 98 || a == 116 || a == 99) <;> simp]; rfl
 · rw [if_neg zq7, isIdM_len (by rw [← size_list]; exact h)]
def letterM (kind : Nat) : UInt8 := if kind = 1 then 98 else if kind = 2 then 116 else 99
def isIdOfM (kind : Nat) (l : List UInt8) : Bool := isIdM l && l.getD 0 0 == letterM kind
theorem impl_isIdOf_tells (kind : Nat) (hk : 1 ≤ kind ∧ kind ≤ 3) (s : ByteArray) : impl_isIdOf.f (kind : Int) s = some (isIdOfM kind s.data.toList) := by
 unfold impl_isIdOf.f isIdOfM
 rw [impl_isId]
 simp only [Option.bind_some]
 cases h : isIdM s.data.toList with
 | false => rfl
 | true =>
   have hs : s.size = 5 := by
    rw [size_list]
    rcases Nat.decEq s.data.toList.length 5 with h' | h'
    · rw [isIdM_len h'] at h; cases h
    · exact h'
   rw [if_pos rfl, if_pos zq7, wrap_in zq7 zq7, if_pos zq7, if_pos zq7]
   have e0 : bt s 0 = ((s.data.toList.getD 0 0).toNat : Int) := bt_nat s 0
   have e1 : bt (⟨#[98, 116, 99]⟩ : ByteArray) ((kind : Int) - 1) = ((letterM kind).toNat : Int) := by
    obtain rfl | rfl | rfl : kind = 1 ∨ kind = 2 ∨ kind = 3 := by omega
    · rfl
    · rfl
    · rfl
   rw [e0, e1, Bool.true_and]
   congr 1
   rw [Bool.eq_iff_iff, beq_iff_eq, beq_iff_eq]
   constructor
   · intro h; exact UInt8.toNat_inj.1 zq7
   · intro h; rw [h]
theorem spec_l6Is_tells (kind : Nat) (hk : 1 ≤ kind ∧ kind ≤ 3) (s : ByteArray) (k : Nat) (h8 : 8 ≤ k) : spec_l6Is.f k s (kind : Int) = some (isIdOfM kind s.data.toList) := by
 unfold spec_l6Is.f isIdOfM
 rw [spec_isId s k h8]
 simp only [Option.bind_some]
 cases h : isIdM s.data.toList with
 | false => rfl
 | true =>
   have hs : s.size = 5 := by
    rw [size_list]
    rcases Nat.decEq s.data.toList.length 5 with h' | h'
    · rw [isIdM_len h'] at h; cases h
    · exact h'
   obtain ⟨a, b, c, d, e, hl⟩ := five hs
   rw [if_pos rfl, if_pos zq7, if_pos zq7]
   have e1 : spec_l5Letter.f (kind : Int) = some ⟨#[letterM kind]⟩ := by
    unfold spec_l5Letter.f
    rw [if_pos zq7, wrap_in zq7 zq7, if_pos zq7, if_pos zq7]
    obtain rfl | rfl | rfl : kind = 1 ∨ kind = 2 ∨ kind = 3 := by omega
    · rfl
    · rfl
    · rfl
   rw [e1]
   simp only [Option.bind_some, Bool.true_and]
   have e2 : (s.extract 0 1).toList = [a] := by rw [toList_eq, Lib.extract_data, hl]; rfl
   have e3 : (⟨#[letterM kind]⟩ : ByteArray).toList = [letterM kind] := by rw [toList_eq]
   rw [e2, e3, hl]
   congr 1
   rw [Bool.eq_iff_iff, beq_iff_eq, beq_iff_eq]
   simp
end Go.Proofs.YtpnoghcdfbmpoaaGreatDoorX

namespace Go.Proofs.YtpnoghcdfbmpoaaGreatDoorX
open Go Go.RowKit Go.Proofs.YtpnoghcdfbmpoaaGreatDoorW.PrintWords Go.Proofs.YtpnoghcdfbmpoaaGreatDoor.PX
set_option linter.unusedVariables false
set_option linter.unusedSimpArgs false
def noteStep (s : ByteArray) (fin : Bool) (i : Nat) (_ : Unit) : Sum Bool Unit := if bt s (i : Int) < 32 ∨ bt s (i : Int) > 126 then .inl false else .inr ()
def noteM (s : ByteArray) : Bool := if s.size > 60 then false else run (noteStep s true) (fun _ => true) s.size 0 ()
theorem spec_note (s : ByteArray) (k : Nat) (hk : s.size < k) : spec_l6Note.f k s = some (noteM s) := by
 unfold spec_l6Note.f noteM
 by_cases h : s.size > 60
 · rw [if_pos zq7, if_pos h]
 rw [if_neg zq7, if_neg h]
 refine loop0 (F := fun k i (_ : Unit) => spec_l6Note.l0 k s (i : Int)) s.size 0 (fun _ _ => True) (fun _ _ _ _ _ _ => trivial) (fun k i _ _ hi _ => ?_) (fun k _ _ _ => ?_) () trivial k zq7
 · simp only [spec_l6Note.l0]
   rw [if_pos zq7, if_pos zq7, wrap_in zq7 zq7]
   unfold noteStep
   by_cases h1 : bt s (i : Int) < 32
   · rw [if_pos h1, if_pos (.inl h1)]
   · rw [if_neg h1]
     by_cases h2 : bt s (i : Int) > 126
     · rw [if_pos h2, if_pos (.inr h2)]
     · rw [if_neg h2, if_neg zq7]; rfl
 · simp only [spec_l6Note.l0]
   rw [if_neg zq7]
theorem impl_note (s : ByteArray) (hs : s.size ≤ 1048576) (k : Nat) (hk : s.size < k) : impl_isNote.f k s = some (noteM s) := by
 unfold impl_isNote.f
 have := loop0 (F := fun k i (_ : Unit) => impl_isNote.l0 k s (s.size : Int) (i : Int)) (step := noteStep s true) (fin := fun _ => decide ((s.size : Int) ≤ 60)) s.size 0 (fun _ _ => True) (fun _ _ _ _ _ _ => trivial) (fun k i _ _ hi _ => by
  simp only [impl_isNote.l0]
  rw [if_pos zq7, if_pos zq7, if_pos zq7, wrap_in zq7 zq7]
  unfold noteStep
  by_cases h1 : bt s (i : Int) < 32
  · rw [if_pos h1, if_pos (.inl h1)]
  · rw [if_neg h1]
    by_cases h2 : bt s (i : Int) > 126
    · rw [if_pos h2, if_pos (.inr h2)]
    · rw [if_neg h2, if_neg zq7]; rfl) (fun k _ _ _ => by
  simp only [impl_isNote.l0]
  rw [if_neg zq7]) () trivial k zq7
 refine this.trans ?_
 unfold noteM
 congr 1
 by_cases h : s.size > 60
 · rw [if_pos h]
   have e : ∀ d i, run (noteStep s true) (fun _ => decide ((s.size : Int) ≤ 60)) d i () = false := by
    intro d
    induction d with
    | zero => intro i; rw [run_zero]; exact decide_eq_false zq7
    | succ d ih =>
      intro i
      rw [run]
      cases hx : noteStep s true i () with
      | inl r =>
        unfold noteStep at hx
        split at hx
        · injection hx with hx; exact hx.symm
        · cases hx
      | inr u => exact ih (i + 1)
   exact e _ _
 · rw [if_neg h, show decide ((s.size : Int) ≤ 60) = true from decide_eq_true zq7]
theorem index_tells (l : List ByteArray) (p : ByteArray) (hl : l.length ≤ 1048576) (k : Nat) (hk : l.length < k) :
 ∃ r : Int, slices_Index_string_string.f k l p = some r ∧ (0 ≤ r ↔ p ∈ l) ∧ -1 ≤ r := by
 unfold slices_Index_string_string.f
 let step : Nat → Unit → Sum Int Unit := fun i _ => if p = l.getD i ByteArray.empty then .inl (i : Int) else .inr ()
 have h := loop0 (F := fun k i (_ : Unit) => slices_Index_string_string.l0 k l p (l.length : Int) (i : Int)) (step := step) (fin := fun _ => -1) l.length 0 (fun _ _ => True) (fun _ _ _ _ _ _ => trivial) (fun k i _ _ hi _ => by
  simp only [slices_Index_string_string.l0]
  rw [if_pos zq7, if_pos zq7, if_pos zq7, wrap_in zq7 zq7, rdOf_nat]
  by_cases c : p = l.getD i ByteArray.empty
  · rw [if_pos (by rw [← c]), show step i () = .inl (i : Int) from if_pos c]
  · rw [if_neg (fun e => c (toList_inj e)), show step i () = .inr () from if_neg c]; rfl) (fun k _ _ _ => by
  simp only [slices_Index_string_string.l0]
  rw [if_neg zq7]) () trivial k zq7
 refine ⟨_, h, ?_⟩
 have key : ∀ d i, i + d = l.length → (0 ≤ run step (fun _ => (-1 : Int)) d i () ↔ p ∈ l.drop i) ∧ -1 ≤ run step (fun _ => (-1 : Int)) d i () := by
  intro d
  induction d with
  | zero =>
    intro i hi
    rw [run_zero, List.drop_of_length_le zq7]
    simp
  | succ d ih =>
    intro i hi
    have hlt : i < l.length := by omega
    have e : l.getD i ByteArray.empty = l[i] := by simp [List.getD_eq_getElem?_getD, hlt]
    rw [List.drop_eq_getElem_cons hlt]
    by_cases c : p = l.getD i ByteArray.empty
    · rw [run_out (r := (i : Int)) (if_pos c)]
      exact ⟨⟨fun _ => by rw [← e, ← c]; exact List.mem_cons_self, fun _ => by omega⟩, by omega⟩
    · rw [run_on (s' := ()) (if_neg c)]
      obtain ⟨h1, h2⟩ := ih (i + 1) zq7
      refine ⟨?_, h2⟩
      rw [h1, List.mem_cons]
      exact ⟨.inr, fun h => h.resolve_left (fun e' => c (by rw [e]; exact e'))⟩
 have := key l.length 0 zq7
 simpa using this
theorem contains_tells (l : List ByteArray) (p : ByteArray) (hl : l.length ≤ 1048576) (k : Nat) (hk : l.length < k) : ∃ b, slices_Contains_string_string.f k l p = some b ∧ (b = true ↔ p ∈ l) := by
 obtain ⟨r, hr, h1, h2⟩ := index_tells l p hl k hk
 unfold slices_Contains_string_string.f
 rw [hr]
 exact ⟨_, rfl, by rw [decide_eq_true_iff]; exact h1⟩
theorem commit_spec (tree : ByteArray) (ps : List ByteArray) (time : Int) (note : ByteArray) (hn : note.size ≤ 1048576) (hl : ps.length ≤ 3) :
 ∀ (d i k : Nat), ps.length - i = d → i ≤ ps.length → note.size + 20 + 5 * d < k →
 ∃ r, spec_CommitFault.l0 k (i : Int) tree ps time note = some r ∧ impl_CommitFault.l0 k ps (ps.length : Int) (i : Int) tree ps time note = some r := by
 intro d
 induction d with
 | zero =>
   intro i k hd hi hk
   obtain ⟨k, rfl⟩ : ∃ m, k = m + 1 := ⟨k - 1, by omega⟩
   simp only [spec_CommitFault.l0, impl_CommitFault.l0]
   rw [if_neg zq7, if_neg zq7]
   unfold spec_l1In.f impl_within.f impl_codeIf.f
   rw [spec_note note k zq7, impl_note note hn k zq7]
   by_cases h1 : time ≥ 0
   · rw [if_pos h1]
     simp only [Option.bind_some]
     by_cases h2 : time ≤ 1000000000
     · cases hb : noteM note <;> simp [h2, firstCode_two _ _ k (show 3 ≤ k by omega)]
     · cases hb : noteM note <;> simp [h2, firstCode_two _ _ k (show 3 ≤ k by omega)]
   · rw [if_neg h1]
     simp only [Option.bind_some]
     cases hb : noteM note <;> simp [firstCode_two _ _ k (show 3 ≤ k by omega)]
 | succ d ih =>
   intro i k hd hi hk
   obtain ⟨k, rfl⟩ : ∃ m, k = m + 1 := ⟨k - 1, by omega⟩
   simp only [spec_CommitFault.l0, impl_CommitFault.l0]
   rw [if_pos zq7, if_pos zq7, if_pos zq7, if_pos zq7, if_pos zq7]
   have g1 : spec_l6Is.f k (rdOf ByteArray.empty ps (i : Int)) 3 = _ := spec_l6Is_tells 3 zq7 _ k zq7
   have g2 : impl_isIdOf.f 3 (rdOf ByteArray.empty ps (i : Int)) = _ := impl_isIdOf_tells 3 zq7 _
   rw [g1, g2]
   simp only [Option.bind_some]
   cases hid : isIdOfM 3 (rdOf ByteArray.empty ps (i : Int)).data.toList with
   | false => exact ⟨1, by simp, by simp⟩
   | true =>
     simp only [if_true]
     rw [if_pos zq7]
     have inner : ∀ (e j k : Nat), i - j = e → j ≤ i → note.size + 20 + 5 * d + 1 + e < k →
      ((∃ m, j ≤ m ∧ m < i ∧ ps.getD m ByteArray.empty = ps.getD i ByteArray.empty) → spec_CommitFault.l1 k (i : Int) (j : Int) tree ps time note = some 1) ∧
      (¬ (∃ m, j ≤ m ∧ m < i ∧ ps.getD m ByteArray.empty = ps.getD i ByteArray.empty) → spec_CommitFault.l1 k (i : Int) (j : Int) tree ps time note = spec_CommitFault.l0 (k - (e + 1)) ((i : Int) + 1) tree ps time note) := by
      intro e
      induction e with
      | zero =>
        intro j k he hj hk
        obtain ⟨k, rfl⟩ : ∃ m, k = m + 1 := ⟨k - 1, by omega⟩
        simp only [spec_CommitFault.l1]
        rw [if_neg zq7, wrap_in zq7 zq7]
        refine ⟨?_, fun _ => rfl⟩
        rintro ⟨m, h1, h2, _⟩
        omega
      | succ e ihe =>
        intro j k he hj hk
        obtain ⟨k, rfl⟩ : ∃ m, k = m + 1 := ⟨k - 1, by omega⟩
        simp only [spec_CommitFault.l1]
        rw [if_pos zq7, if_pos zq7, if_pos zq7, if_pos zq7, if_pos zq7, rdOf_nat, rdOf_nat, wrap_in zq7 zq7]
        by_cases c : ps.getD j ByteArray.empty = ps.getD i ByteArray.empty
        · rw [if_pos (by rw [c])]
          exact ⟨fun _ => rfl, fun h => absurd ⟨j, by omega, by omega, c⟩ h⟩
        · rw [if_neg (fun h => c (toList_inj h)), show ((j : Int) + 1) = ((j + 1 : Nat) : Int) from rfl]
          obtain ⟨i1, i2⟩ := ihe (j + 1) k zq7 zq7 zq7
          refine ⟨?_, fun h => ?_⟩
          · rintro ⟨m, h1, h2, h3⟩
            have : m ≠ j := fun e' => c (e' ▸ h3)
            exact i1 ⟨m, by omega, h2, h3⟩
          · rw [i2 (fun ⟨m, h1, h2, h3⟩ => h ⟨m, by omega, h2, h3⟩), Nat.add_sub_add_right]
     have hin := inner i 0 k zq7 zq7 zq7
     obtain ⟨b, hb, hbi⟩ := contains_tells (ps.take (i : Int).toNat) (rdOf ByteArray.empty ps (i : Int)) (by rw [List.length_take]; omega) k (by rw [List.length_take]; omega)
     rw [hb]
     simp only [Option.bind_some]
     have hmem : (b = true) ↔ ∃ m, 0 ≤ m ∧ m < i ∧ ps.getD m ByteArray.empty = ps.getD i ByteArray.empty := by
      rw [hbi, rdOf_nat, Int.toNat_natCast, List.mem_iff_getElem]
      constructor
      · rintro ⟨m, hm, he⟩
        rw [List.length_take] at hm
        refine ⟨m, by omega, by omega, ?_⟩
        rw [← he, List.getElem_take]
        simp [List.getD_eq_getElem?_getD, show m < ps.length by omega]
      · rintro ⟨m, _, hm, he⟩
        refine ⟨m, by rw [List.length_take]; omega, ?_⟩
        rw [← he, List.getElem_take]
        simp [List.getD_eq_getElem?_getD, show m < ps.length by omega]
     cases b with
     | true => exact ⟨1, hin.1 (hmem.1 rfl), by simp⟩
     | false =>
       have hno : ¬ ∃ m, 0 ≤ m ∧ m < i ∧ ps.getD m ByteArray.empty = ps.getD i ByteArray.empty := fun h => (by have := hmem.2 h; cases this)
       have hl1 := hin.2 hno
       clear hno hmem hbi hin inner
       rw [if_neg (show ¬ (false = true) by decide), wrap_in zq7 zq7]
       obtain ⟨r, h1, h2⟩ := ih (i + 1) (k - (i + 1)) zq7 zq7 zq7
       refine ⟨r, hl1.trans h1, ?_⟩
       have hm := at_rounds (g := fun k => impl_CommitFault.l0 k ps (ps.length : Int) ((i + 1 : Nat) : Int) tree ps time note) (fun k => by
        have := impl_CommitFault.mono_l k
        exact this _ _ _ _ _ _ _) (show k - (i + 1) ≤ k by omega) h2
       exact hm
theorem commitFault_both (tree : ByteArray) (ps : List ByteArray) (time : Int) (note : ByteArray) (hn : note.size ≤ 1048576) (k : Nat) (hk : note.size + 40 ≤ k) :
 ∃ r, spec_CommitFault.f k tree ps time note = some r ∧ impl_CommitFault.f k tree ps time note = some r := by
 unfold spec_CommitFault.f impl_CommitFault.f
 have g1 : spec_l6Is.f k tree 2 = _ := spec_l6Is_tells 2 zq7 _ k zq7
 have g2 : impl_isIdOf.f 2 tree = _ := impl_isIdOf_tells 2 zq7 _
 rw [g1, g2]
 simp only [Option.bind_some]
 cases hid : isIdOfM 2 tree.data.toList with
 | false => exact ⟨1, by simp, by simp⟩
 | true =>
   simp only [if_true]
   by_cases h : (ps.length : Int) > 3
   · rw [if_pos h]; exact ⟨2, rfl, by rw [if_pos h]⟩
   · rw [if_neg h, if_neg h]
     exact commit_spec tree ps time note hn zq7 ps.length 0 k zq7 zq7 zq7
end Go.Proofs.YtpnoghcdfbmpoaaGreatDoorX
