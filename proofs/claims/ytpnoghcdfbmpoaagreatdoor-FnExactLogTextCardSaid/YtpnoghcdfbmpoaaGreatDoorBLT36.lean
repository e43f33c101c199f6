/- Texts of this claim set one behind another by wip/bundle.py: PXf77, PXf54, PXf98, XRep. -/
import Derived.Test.YtpnoghcdfbmpoaaGreatDoorBLT9
import Derived.Test.YtpnoghcdfbmpoaaGreatDoorBLT15
import Derived.Test.YtpnoghcdfbmpoaaGreatDoorBLT31
import Derived.Test.YtpnoghcdfbmpoaaGreatDoorBLT6
import Derived.Test.YtpnoghcdfbmpoaaGreatDoorBLT16
import Derived.Lib.Hide
namespace Go.Proofs.YtpnoghcdfbmpoaaGreatDoor.PX
open Go.RowKit Go.Proofs.YtpnoghcdfbmpoaaGreatDoorW.PrintWords Go.Proofs.YtpnoghcdfbmpoaaGreatDoorW.PrintLast Go.Proofs.YtpnoghcdfbmpoaaGreatDoorW.PrintMore
attribute [local go_sem] max2_int min2_int max_two min_two max_three min_three max_four min_four   -- for this text's walks alone
set_option linter.unusedVariables false
set_option linter.unusedSimpArgs false
def strconv_FormatInt_77.f (a0 : Int) (a1 : Int) : Option ByteArray := if a1 = 10 then (if -9223372036854775808 ≤ a0 then (if a0 ≤ 9223372036854775807 then some ⟨(Lib.itoa a0).toArray⟩ else none) else none) else (if a1 = 16 then (if 0 ≤ a0 then (if a0 < 65536 then some ⟨(X.hexL a0.toNat).toArray⟩ else none) else none) else none)
theorem strconv_FormatInt_77.calls (a0 : Int) (a1 : Int) (r : ByteArray) (w : World) (hG : Gt w) (h : strconv_FormatInt_77.f a0 a1 = some r) :
  Calls Tryz.prog 77 #[.int .i64 a0, .int .i64 a1] w fun e w' => e = .returned (.string r) ∧ Below w.heap.size w w' := by
 unfold strconv_FormatInt_77.f at h
 by_cases h1 : a1 = 10
 ·
  subst h1
  rw [if_pos rfl] at h
  by_cases h2 : -9223372036854775808 ≤ a0
  ·
   rw [if_pos h2] at h
   by_cases h3 : a0 ≤ 9223372036854775807
   ·
    rw [if_pos h3] at h
    obtain rfl := Option.some.inj h
    refine (Any.strconv_FormatInt_10 Tryz.laysM173 a0 h2 h3 w hG.1).mono fun e w' ⟨he, k, os, hw⟩ => ⟨he, ?_⟩
    rw [hw]
    exact grow_below w k os
   rw [if_neg h3] at h
   cases h
  rw [if_neg h2] at h
  cases h
 rw [if_neg h1] at h
 by_cases h4 : a1 = 16
 ·
  subst h4
  rw [if_pos rfl] at h
  by_cases h2 : 0 ≤ a0
  ·
   rw [if_pos h2] at h
   by_cases h3 : a0 < 65536
   ·
    rw [if_pos h3] at h
    obtain rfl := Option.some.inj h
    obtain ⟨n, rfl⟩ := Int.eq_ofNat_of_zero_le h2
    exact X.fmt_calls n zq7 w hG
   rw [if_neg h3] at h
   cases h
  rw [if_neg h2] at h
  cases h
 rw [if_neg h4] at h
 cases h
def impl_decimal.f (a0 : Int) : Option (ByteArray) := (strconv_FormatInt_77.f a0 10).bind fun t324 => (some t324)
set_option maxHeartbeats 8000000 in
set_option maxRecDepth 100000 in
theorem impl_decimal.calls (a0 : Int) (r : ByteArray) (w : World) (hG : Gt w) (h : impl_decimal.f a0 = some r) :
  Calls Tryz.prog 54 #[.int .i64 a0] w fun e w' => e = .returned (.string r) ∧ Below w.heap.size w w' := by
 have HG := zK hG
 clear hG
 have HB := zK (Below.refl w.heap.size w)
 have H : ((strconv_FormatInt_77.f a0 10).bind fun t324 => (some t324)) = some r := h
 clear h
 replace H := Option.bind_eq_some_iff.mp H
 obtain ⟨t324, A20, H⟩ := H
 replace H : (some t324) = some r := H
 have A2 := zK A20
 clear A20
 obtain rfl := Option.some.inj H
 go_enter Tryz.func54, Tryz.ntmps54
 go_wp2_with (first | ((with_reducible refine gate_callee (f := 77) rfl ?_); refine goesL_ (some 4) rfl rfl Tryz.func77 zq6 rfl #[.int .i64 a0, .int .i64 10] rfl zq1 ?_; (with_reducible refine (strconv_FormatInt_77.calls a0 10 t324 _ (Gt.below HG.out zq0) A2.out).mono ?_); rintro e w3 ⟨rfl, hb⟩; refine ⟨_, rfl, ?_⟩; have n0_ := zK (below_step zq0 hb); clear HB; have HB := n0_; clear n0_; (try clear hb); (try clear hb2); (try clear hk); (try clear hi)))
 go_ret
 exact ⟨zq3, zq0⟩
def impl_commitText.l0 : Nat → ByteArray → List ByteArray → Int → Int → ByteArray → List ByteArray → Int → ByteArray → Option (ByteArray)
 | 0, _, _, _, _, _, _, _, _ => none
 | k + 1, x3, x11, x12, x13, x326000, x326001, x326002, x326003 => if x13 < x12 then (if 0 ≤ x13 then (if x13 < (x11.length : Int) then (if 7 + (rdOf ByteArray.empty x11 x13).size ≤ 9223372036854775807 then (if ((⟨#[112, 97, 114, 101, 110, 116, 32]⟩ : ByteArray) ++ (rdOf ByteArray.empty x11 x13)).size + 1 ≤ 9223372036854775807 then (if x3.size + (((⟨#[112, 97, 114, 101, 110, 116, 32]⟩ : ByteArray) ++ (rdOf ByteArray.empty x11 x13)) ++ (⟨#[10]⟩ : ByteArray)).size ≤ 9223372036854775807 then (impl_commitText.l0 k (x3 ++ (((⟨#[112, 97, 114, 101, 110, 116, 32]⟩ : ByteArray) ++ (rdOf ByteArray.empty x11 x13)) ++ (⟨#[10]⟩ : ByteArray))) x11 x12 (wrap64 (x13 + 1)) x326000 x326001 x326002 x326003) else (none)) else (none)) else (none)) else (none)) else (none)) else (if x3.size + 5 ≤ 9223372036854775807 then ((impl_decimal.f x326002).bind fun t327 => (if (x3 ++ (⟨#[116, 105, 109, 101, 32]⟩ : ByteArray)).size + t327.size ≤ 9223372036854775807 then (if ((x3 ++ (⟨#[116, 105, 109, 101, 32]⟩ : ByteArray)) ++ t327).size + 6 ≤ 9223372036854775807 then (if (((x3 ++ (⟨#[116, 105, 109, 101, 32]⟩ : ByteArray)) ++ t327) ++ (⟨#[10, 110, 111, 116, 101, 32]⟩ : ByteArray)).size + x326003.size ≤ 9223372036854775807 then (if ((((x3 ++ (⟨#[116, 105, 109, 101, 32]⟩ : ByteArray)) ++ t327) ++ (⟨#[10, 110, 111, 116, 101, 32]⟩ : ByteArray)) ++ x326003).size + 1 ≤ 9223372036854775807 then (some (((((x3 ++ (⟨#[116, 105, 109, 101, 32]⟩ : ByteArray)) ++ t327) ++ (⟨#[10, 110, 111, 116, 101, 32]⟩ : ByteArray)) ++ x326003) ++ (⟨#[10]⟩ : ByteArray))) else (none)) else (none)) else (none)) else (none))) else (none))
def impl_commitText.f (k : Nat) (a0_0 : ByteArray) (l0_1 : List ByteArray) (a0_2 : Int) (a0_3 : ByteArray) : Option (ByteArray) := if 5 + a0_0.size ≤ 9223372036854775807 then (if ((⟨#[116, 114, 101, 101, 32]⟩ : ByteArray) ++ a0_0).size + 1 ≤ 9223372036854775807 then (impl_commitText.l0 k (((⟨#[116, 114, 101, 101, 32]⟩ : ByteArray) ++ a0_0) ++ (⟨#[10]⟩ : ByteArray)) l0_1 (l0_1.length : Int) 0 a0_0 l0_1 a0_2 a0_3) else (none)) else (none)
def impl_commitText.T7 : Bool × List (List Nat × List Nat) := (true, [([], []), ([0], [0]), ([], []), ([2], [2]), ([3], [3]), ([1, 4], [1, 4]), ([5], [5]), ([], []), ([7], [7]), ([6, 8], [6, 8]), ([9], [9]), ([10, 4, 0, 1, 2, 3, 4, 5, 6, 7, 8, 9, 10], [10])])
def impl_commitText.B7 : List Nat := [0, 1, 0, 4, 12, 31, 63, 0, 128, 511, 1023, 2047]
theorem impl_commitText.tab7 : rtab .any (opsOf Tryz.f98 7) = impl_commitText.T7 := by kernel_rfl
theorem impl_commitText.bits7 : waitsOk impl_commitText.T7.2 impl_commitText.B7 = true := by kernel_rfl
set_option maxHeartbeats 8000000 in
set_option maxRecDepth 100000 in
theorem impl_commitText.calls (k : Nat) (a0_0 : ByteArray) (A0_1 : Option Addr) (c0_1 : Nat) (l0_1 : List ByteArray) (a0_2 : Int) (a0_3 : ByteArray) (r : ByteArray) (w : World) (hr0_1 : Kd.C Kd.string w A0_1 l0_1.length l0_1) (hc0_1 : l0_1.length ≤ c0_1) (hG : Gt w) (h : impl_commitText.f k a0_0 l0_1 a0_2 a0_3 = some r) :
  Calls Tryz.prog 98 #[.agg #[.string a0_0, .slice A0_1 l0_1.length c0_1, .int .i64 a0_2, .string a0_3]] w fun e w' => e = .returned (.string r) ∧ Below w.heap.size w w' := by
 have HG := zK hG
 clear hG
 have hu60 := Tryz.underlying60
 have HR0_1 := zK hr0_1
 have HC0_1 := zK hc0_1
 clear hr0_1 hc0_1
 have HB := zK (Below.refl w.heap.size w)
 have H : (if 5 + a0_0.size ≤ 9223372036854775807 then (if ((⟨#[116, 114, 101, 101, 32]⟩ : ByteArray) ++ a0_0).size + 1 ≤ 9223372036854775807 then (impl_commitText.l0 k (((⟨#[116, 114, 101, 101, 32]⟩ : ByteArray) ++ a0_0) ++ (⟨#[10]⟩ : ByteArray)) l0_1 (l0_1.length : Int) 0 a0_0 l0_1 a0_2 a0_3) else (none)) else (none)) = some r := h
 clear h
 by_cases c2 : 5 + a0_0.size ≤ 9223372036854775807
 ·
  rw [if_pos c2] at H
  have c2b0 := eq_true c2
  have c2b1 : decide (5 + a0_0.size ≤ 9223372036854775807) = true := decide_eq_true c2
  try have c2b2 : (9223372036854775807 < 5 + a0_0.size) = False := eq_false (Nat.not_lt.2 c2)
  by_cases c3 : ((⟨#[116, 114, 101, 101, 32]⟩ : ByteArray) ++ a0_0).size + 1 ≤ 9223372036854775807
  ·
   rw [if_pos c3] at H
   have c3b0 := eq_true c3
   have c3b1 : decide (((⟨#[116, 114, 101, 101, 32]⟩ : ByteArray) ++ a0_0).size + 1 ≤ 9223372036854775807) = true := decide_eq_true c3
   try have c3b2 : (9223372036854775807 < ((⟨#[116, 114, 101, 101, 32]⟩ : ByteArray) ++ a0_0).size + 1) = False := eq_false (Nat.not_lt.2 c3)
   try have c3b3 := c3b2
   try simp only [ByteArray.size_append, X.szLit, List.size_toArray, List.length_cons, List.length_nil, Nat.zero_add, Nat.reduceAdd] at c3b3
   have H' := zK H
   clear H
   go_enter Tryz.func98, Tryz.ntmps98
   go_wp2_with (first | ((with_reducible refine gate_dst (N := 1) rfl ?_); refine box_event ?hg (N := 1) ?hd (cs := #[.string a0_0, .slice A0_1 l0_1.length c0_1, .int .i64 a0_2, .string a0_3]) (t := 60) ?hr ?_; (case hd => rfl); (case hg => rfl); (case hr => first | (go_simp; done) | (go_simp; rfl)); intro gb325 hg w4 hbox hb; have n0_ := zK (below_step zq0 hb); have n1_ := zK (hbox); have n2_ := zK ((by rw [hg]; exact (below_size zq0) : w.heap.size ≤ gb325)); have n3_ := zK ((by rw [hg]; exact (below_size zq0) : w.heap.size ≤ gb325)); clear HB; have HB := n0_; have BK325 := n1_; have GW325 := n2_; have GE325 := n3_; clear n0_ n1_ n2_ n3_; clear hb hbox hg; have hcz5_0 : w4.cell? ⟨gb325, 0, none⟩ = some (.string a0_0) := (blk_cell BK325.out 0).trans rfl; have hcz5_1 : w4.cell? ⟨gb325, 1, none⟩ = some (.slice A0_1 l0_1.length c0_1) := (blk_cell BK325.out 1).trans rfl; have hcz5_2 : w4.cell? ⟨gb325, 2, none⟩ = some (.int .i64 a0_2) := (blk_cell BK325.out 2).trans rfl; have hcz5_3 : w4.cell? ⟨gb325, 3, none⟩ = some (.string a0_3) := (blk_cell BK325.out 3).trans rfl; have hfz5_0 := blk_frozen BK325.out 0; have hfz5_1 := blk_frozen BK325.out 1; have hfz5_2 := blk_frozen BK325.out 2; have hfz5_3 := blk_frozen BK325.out 3))
   go_loopg [3, 13] k (fun kq v3 v13 w' => ∃ (x3_1 : ByteArray) (x13_1 : Int), v3 = .string x3_1 ∧ v13 = .int .i64 x13_1 ∧ Aside0 (impl_commitText.l0 kq x3_1 l0_1 (l0_1.length : Int) x13_1 a0_0 l0_1 a0_2 a0_3 = some r) ∧ Aside0 (kq ≤ k) ∧ Aside0 (w'.heap[gb325]? = some (.cells #[.string a0_0, (.slice A0_1 l0_1.length c0_1), .int .i64 a0_2, .string a0_3] 60 (0, 0))) ∧ Aside0 (Below w.heap.size w w'))
   case atStart => exact ⟨(((⟨#[116, 114, 101, 101, 32]⟩ : ByteArray) ++ a0_0) ++ (⟨#[10]⟩ : ByteArray)), (0), zq5, zq5, H', ⟨Nat.le_refl _⟩, ⟨by (with_reducible repeat (first | refine zM ?_ _ | refine zP ?_ | refine zQ ?_ _)); exact BK325.out⟩, ⟨by repeat (first | (with_reducible first | exact HB.out | apply zA | apply zN | apply zD | refine below_set ?_ GE325.out) | exact HB.out)⟩⟩
   case round =>
    clear H'
    try clear c2
    try clear c2b0
    try clear c2b1
    try clear c2b2
    try clear p2
    try clear c3
    try clear c3b0
    try clear c3b1
    try clear c3b2
    try clear hcz5_0
    try clear hcz5_1
    try clear hcz5_2
    try clear hcz5_3
    try clear hfz5_0
    try clear hfz5_1
    try clear hfz5_2
    try clear hfz5_3
    obtain ⟨x3_1, x13_1, rfl, rfl, HA, HK1, BK325, HB⟩ := hrel
    cases gk with
    | zero => exact absurd HA.out (by simp [impl_commitText.l0])
    | succ k1 =>
     have H := HA.out
     clear HA
     simp only [impl_commitText.l0] at H
     by_cases c6 : x13_1 < (l0_1.length : Int)
     ·
      rw [if_pos c6] at H
      have c6b0 : decide (x13_1 < (l0_1.length : Int)) = true := decide_eq_true c6
      clear c6
      by_cases c7 : 0 ≤ x13_1
      ·
       rw [if_pos c7] at H
       have c7b0 : decide (0 ≤ x13_1) = true := decide_eq_true c7
       clear c7
       by_cases c8 : x13_1 < (l0_1.length : Int)
       ·
        rw [if_pos c8] at H
        have c8b0 : decide (x13_1 < (l0_1.length : Int)) = true := decide_eq_true c8
        clear c8
        by_cases c9 : 7 + (rdOf ByteArray.empty l0_1 x13_1).size ≤ 9223372036854775807
        ·
         rw [if_pos c9] at H
         have c9b0 := eq_true c9
         have c9b1 : decide (7 + (rdOf ByteArray.empty l0_1 x13_1).size ≤ 9223372036854775807) = true := decide_eq_true c9
         try have c9b2 : (9223372036854775807 < 7 + (rdOf ByteArray.empty l0_1 x13_1).size) = False := eq_false (Nat.not_lt.2 c9)
         by_cases c10 : ((⟨#[112, 97, 114, 101, 110, 116, 32]⟩ : ByteArray) ++ (rdOf ByteArray.empty l0_1 x13_1)).size + 1 ≤ 9223372036854775807
         ·
          rw [if_pos c10] at H
          have c10b0 := eq_true c10
          have c10b1 : decide (((⟨#[112, 97, 114, 101, 110, 116, 32]⟩ : ByteArray) ++ (rdOf ByteArray.empty l0_1 x13_1)).size + 1 ≤ 9223372036854775807) = true := decide_eq_true c10
          try have c10b2 : (9223372036854775807 < ((⟨#[112, 97, 114, 101, 110, 116, 32]⟩ : ByteArray) ++ (rdOf ByteArray.empty l0_1 x13_1)).size + 1) = False := eq_false (Nat.not_lt.2 c10)
          try have c10b3 := c10b2
          try simp only [ByteArray.size_append, X.szLit, List.size_toArray, List.length_cons, List.length_nil, Nat.zero_add, Nat.reduceAdd] at c10b3
          by_cases c11 : x3_1.size + (((⟨#[112, 97, 114, 101, 110, 116, 32]⟩ : ByteArray) ++ (rdOf ByteArray.empty l0_1 x13_1)) ++ (⟨#[10]⟩ : ByteArray)).size ≤ 9223372036854775807
          ·
           rw [if_pos c11] at H
           have c11b0 := eq_true c11
           have c11b1 : decide (x3_1.size + (((⟨#[112, 97, 114, 101, 110, 116, 32]⟩ : ByteArray) ++ (rdOf ByteArray.empty l0_1 x13_1)) ++ (⟨#[10]⟩ : ByteArray)).size ≤ 9223372036854775807) = true := decide_eq_true c11
           try have c11b2 : (9223372036854775807 < x3_1.size + (((⟨#[112, 97, 114, 101, 110, 116, 32]⟩ : ByteArray) ++ (rdOf ByteArray.empty l0_1 x13_1)) ++ (⟨#[10]⟩ : ByteArray)).size) = False := eq_false (Nat.not_lt.2 c11)
           try have c11b3 := c11b2
           try simp only [ByteArray.size_append, X.szLit, List.size_toArray, List.length_cons, List.length_nil, Nat.zero_add, Nat.reduceAdd] at c11b3
           have H' := zK H
           clear H
           have p326 : 0 ≤ (x13_1 : Int) := zX zq2
           have q326 : x13_1 < (l0_1.length : Int) := zX zq2
           obtain ⟨ad326, e326, hx326_0⟩ := Kd.at_string HR0_1.out x13_1 p326 q326
           cases e326
           replace hx326_0 := (HB.out.cell (zL w _ hx326_0)).trans hx326_0
           replace p326 := eq_true p326
           replace q326 := eq_true q326
           go_wp2
           go_roundg k1
           case measure => have := HK1.out; omega
           case rel => exact ⟨(x3_1 ++ (((⟨#[112, 97, 114, 101, 110, 116, 32]⟩ : ByteArray) ++ (rdOf ByteArray.empty l0_1 x13_1)) ++ (⟨#[10]⟩ : ByteArray))), (wrap64 (x13_1 + 1)), zq5, zq5, H', ⟨by have := HK1.out; omega⟩, ⟨by (with_reducible repeat (first | refine zM ?_ _ | refine zP ?_ | refine zQ ?_ _)); exact BK325.out⟩, ⟨by repeat (first | (with_reducible first | exact HB.out | apply zA | apply zN | apply zD | refine below_set ?_ GE325.out) | exact HB.out)⟩⟩
          rw [if_neg c11] at H
          exact absurd H zq12
         rw [if_neg c10] at H
         exact absurd H zq12
        rw [if_neg c9] at H
        exact absurd H zq12
       rw [if_neg c8] at H
       exact absurd H zq12
      rw [if_neg c7] at H
      exact absurd H zq12
     rw [if_neg c6] at H
     have c6b0 : decide (x13_1 < (l0_1.length : Int)) = false := decide_eq_false c6
     clear c6
     by_cases c12 : x3_1.size + 5 ≤ 9223372036854775807
     ·
      rw [if_pos c12] at H
      have c12b0 := eq_true c12
      have c12b1 : decide (x3_1.size + 5 ≤ 9223372036854775807) = true := decide_eq_true c12
      try have c12b2 : (9223372036854775807 < x3_1.size + 5) = False := eq_false (Nat.not_lt.2 c12)
      replace H := Option.bind_eq_some_iff.mp H
      obtain ⟨t327, A130, H⟩ := H
      replace H : (if (x3_1 ++ (⟨#[116, 105, 109, 101, 32]⟩ : ByteArray)).size + t327.size ≤ 9223372036854775807 then (if ((x3_1 ++ (⟨#[116, 105, 109, 101, 32]⟩ : ByteArray)) ++ t327).size + 6 ≤ 9223372036854775807 then (if (((x3_1 ++ (⟨#[116, 105, 109, 101, 32]⟩ : ByteArray)) ++ t327) ++ (⟨#[10, 110, 111, 116, 101, 32]⟩ : ByteArray)).size + a0_3.size ≤ 9223372036854775807 then (if ((((x3_1 ++ (⟨#[116, 105, 109, 101, 32]⟩ : ByteArray)) ++ t327) ++ (⟨#[10, 110, 111, 116, 101, 32]⟩ : ByteArray)) ++ a0_3).size + 1 ≤ 9223372036854775807 then (some (((((x3_1 ++ (⟨#[116, 105, 109, 101, 32]⟩ : ByteArray)) ++ t327) ++ (⟨#[10, 110, 111, 116, 101, 32]⟩ : ByteArray)) ++ a0_3) ++ (⟨#[10]⟩ : ByteArray))) else (none)) else (none)) else (none)) else (none)) = some r := H
      have A13 := zK A130
      clear A130
      by_cases c14 : (x3_1 ++ (⟨#[116, 105, 109, 101, 32]⟩ : ByteArray)).size + t327.size ≤ 9223372036854775807
      ·
       rw [if_pos c14] at H
       have c14b0 := eq_true c14
       have c14b1 : decide ((x3_1 ++ (⟨#[116, 105, 109, 101, 32]⟩ : ByteArray)).size + t327.size ≤ 9223372036854775807) = true := decide_eq_true c14
       try have c14b2 : (9223372036854775807 < (x3_1 ++ (⟨#[116, 105, 109, 101, 32]⟩ : ByteArray)).size + t327.size) = False := eq_false (Nat.not_lt.2 c14)
       try have c14b3 := c14b2
       try simp only [ByteArray.size_append, X.szLit, List.size_toArray, List.length_cons, List.length_nil, Nat.zero_add, Nat.reduceAdd] at c14b3
       by_cases c15 : ((x3_1 ++ (⟨#[116, 105, 109, 101, 32]⟩ : ByteArray)) ++ t327).size + 6 ≤ 9223372036854775807
       ·
        rw [if_pos c15] at H
        have c15b0 := eq_true c15
        have c15b1 : decide (((x3_1 ++ (⟨#[116, 105, 109, 101, 32]⟩ : ByteArray)) ++ t327).size + 6 ≤ 9223372036854775807) = true := decide_eq_true c15
        try have c15b2 : (9223372036854775807 < ((x3_1 ++ (⟨#[116, 105, 109, 101, 32]⟩ : ByteArray)) ++ t327).size + 6) = False := eq_false (Nat.not_lt.2 c15)
        try have c15b3 := c15b2
        try simp only [ByteArray.size_append, X.szLit, List.size_toArray, List.length_cons, List.length_nil, Nat.zero_add, Nat.reduceAdd] at c15b3
        by_cases c16 : (((x3_1 ++ (⟨#[116, 105, 109, 101, 32]⟩ : ByteArray)) ++ t327) ++ (⟨#[10, 110, 111, 116, 101, 32]⟩ : ByteArray)).size + a0_3.size ≤ 9223372036854775807
        ·
         rw [if_pos c16] at H
         have c16b0 := eq_true c16
         have c16b1 : decide ((((x3_1 ++ (⟨#[116, 105, 109, 101, 32]⟩ : ByteArray)) ++ t327) ++ (⟨#[10, 110, 111, 116, 101, 32]⟩ : ByteArray)).size + a0_3.size ≤ 9223372036854775807) = true := decide_eq_true c16
         try have c16b2 : (9223372036854775807 < (((x3_1 ++ (⟨#[116, 105, 109, 101, 32]⟩ : ByteArray)) ++ t327) ++ (⟨#[10, 110, 111, 116, 101, 32]⟩ : ByteArray)).size + a0_3.size) = False := eq_false (Nat.not_lt.2 c16)
         try have c16b3 := c16b2
         try simp only [ByteArray.size_append, X.szLit, List.size_toArray, List.length_cons, List.length_nil, Nat.zero_add, Nat.reduceAdd] at c16b3
         by_cases c17 : ((((x3_1 ++ (⟨#[116, 105, 109, 101, 32]⟩ : ByteArray)) ++ t327) ++ (⟨#[10, 110, 111, 116, 101, 32]⟩ : ByteArray)) ++ a0_3).size + 1 ≤ 9223372036854775807
         ·
          rw [if_pos c17] at H
          have c17b0 := eq_true c17
          have c17b1 : decide (((((x3_1 ++ (⟨#[116, 105, 109, 101, 32]⟩ : ByteArray)) ++ t327) ++ (⟨#[10, 110, 111, 116, 101, 32]⟩ : ByteArray)) ++ a0_3).size + 1 ≤ 9223372036854775807) = true := decide_eq_true c17
          try have c17b2 : (9223372036854775807 < ((((x3_1 ++ (⟨#[116, 105, 109, 101, 32]⟩ : ByteArray)) ++ t327) ++ (⟨#[10, 110, 111, 116, 101, 32]⟩ : ByteArray)) ++ a0_3).size + 1) = False := eq_false (Nat.not_lt.2 c17)
          try have c17b3 := c17b2
          try simp only [ByteArray.size_append, X.szLit, List.size_toArray, List.length_cons, List.length_nil, Nat.zero_add, Nat.reduceAdd] at c17b3
          obtain rfl := Option.some.inj H
          try go_wp2
          have n0_ := zK (zP BK325.out)
          have n1_ := zK (zD HB.out)
          clear BK325
          clear HB
          have BK325 := n0_
          have HB := n1_
          clear n0_ n1_
          refine start_ (n := 12) (S := fun w' => w'.cell? ⟨gb325, 0, none⟩ = some (.string a0_0) ∧ w'.cell? ⟨gb325, 1, none⟩ = some (.slice A0_1 l0_1.length c0_1) ∧ w'.cell? ⟨gb325, 2, none⟩ = some (.int .i64 a0_2) ∧ w'.cell? ⟨gb325, 3, none⟩ = some (.string a0_3)) (ds := []) #[zF,zF,zF,zF,zF,zF,zF,zF,zF,zF,zF,zF] zq6 rfl rfl ⟨(blk_cell BK325.out 0).trans rfl, (blk_cell BK325.out 1).trans rfl, (blk_cell BK325.out 2).trans rfl, (blk_cell BK325.out 3).trans rfl⟩ (fun hHeld => ?_); refine with_tabW impl_commitText.tab7 impl_commitText.bits7 (fun HT_ HW_ => ?_)
          generalize wr.drew = w18 at BK325 HB hHeld ⊢
          refine pure_ (i := 0) (N := some 23) (v := ?_) (a' := ?_) #[zB,zF,zF,zF,zF,zF,zF,zF,zF,zF,zF,zF] rfl rfl (any_of HT_.out zq6) (fun _ _ _ h => h) (Or.inl ⟨by rfl, ?_⟩) ?_ ?_
          rotate_left
          ·
           intro w'
           go_simp
           with_reducible rfl
          rotate_left
          ·
           simp only [Act.put, zS, zT, zU, i64_w, i32_w]
           rfl
          refine pure_ (i := 1) (N := some 24) (v := ?_) (a' := ?_) #[zB,zB,zF,zF,zF,zF,zF,zF,zF,zF,zF,zF] rfl rfl (any_of HT_.out zq6) (fun _ _ _ h => h) (Or.inl ⟨by rfl, ?_⟩) ?_ ?_
          rotate_left
          ·
           intro w'
           go_simp
           with_reducible rfl
          rotate_left
          ·
           simp only [Act.put, zS, zT, zU, i64_w, i32_w]
           rfl
          refine pure_ (i := 2) (N := some 25) (v := ?_) (a' := ?_) #[zB,zB,zB,zF,zF,zF,zF,zF,zF,zF,zF,zF] rfl rfl (any_of HT_.out zq6) (fun _ _ _ h => h) (Or.inl ⟨by rfl, ?_⟩) ?_ ?_
          rotate_left
          ·
           intro w'
           go_simp
           with_reducible rfl
          rotate_left
          ·
           simp only [Act.put, zS, zT, zU, i64_w, i32_w]
           rfl
          refine pure_ (i := 7) (N := some 30) (v := ?_) (a' := ?_) #[zB,zB,zB,zF,zF,zF,zF,zB,zF,zF,zF,zF] rfl rfl (any_of HT_.out zq6) (fun _ _ _ h => h) (Or.inl ⟨by rfl, ?_⟩) ?_ ?_
          rotate_left
          ·
           intro w'
           go_simp
           with_reducible rfl
          rotate_left
          ·
           simp only [Act.put, zS, zT, zU, i64_w, i32_w]
           rfl
          refine take_ (i := 3) (N := some 26) (v := ?_) (a' := ?_) #[zB,zB,zB,zB,zF,zF,zF,zB,zF,zF,zF,zF] rfl rfl (take_ofW HT_.out HW_.out zq6) (fun _ _ _ h => h) (Or.inl ⟨by rfl, ?_⟩) hHeld ?_ ?_
          rotate_left
          ·
           rintro w' ⟨s0, s1, s2, s3⟩
           go_simp
           with_reducible rfl
          rotate_left
          ·
           simp only [Act.put, zS, zT, zU, i64_w, i32_w]
           rfl
          refine take_ (i := 8) (N := some 31) (v := ?_) (a' := ?_) #[zB,zB,zB,zB,zF,zF,zF,zB,zB,zF,zF,zF] rfl rfl (take_ofW HT_.out HW_.out zq6) (fun _ _ _ h => h) (Or.inl ⟨by rfl, ?_⟩) hHeld ?_ ?_
          rotate_left
          ·
           rintro w' ⟨s0, s1, s2, s3⟩
           go_simp
           with_reducible rfl
          rotate_left
          ·
           simp only [Act.put, zS, zT, zU, i64_w, i32_w]
           rfl
          refine one_ (i := 4) (N := some 27) #[zB,zB,zB,zB,zB,zF,zF,zB,zB,zF,zF,zF] rfl rfl (one_of HT_.out zq6) zq9 (fun K hK => ?_)
          refine goes_ Tryz.func54 zq6 rfl #[.int .i64 a0_2] zq19 rfl rfl zq1 ?_
          with_reducible refine (impl_decimal.calls a0_2 t327 _ (Gt.below HG.out (by repeat (first | (with_reducible first | exact HB.out | apply zA | apply zN | apply zD | refine below_set ?_ GE325.out) | exact HB.out))) A13.out).mono ?_
          rintro e w19 ⟨rfl, hb⟩
          refine ⟨_, rfl, ?_⟩
          have n0_ := zK (blk_below (g := gb325) (o := .cells #[.string a0_0, .slice A0_1 l0_1.length c0_1, .int .i64 a0_2, .string a0_3] 60 (0, 0)) (by (with_reducible repeat (first | refine zM ?_ _ | refine zP ?_ | refine zQ ?_ _)); exact BK325.out) hb)
          have n1_ := zK (below_step (by repeat (first | (with_reducible first | exact HB.out | apply zA | apply zN | apply zD | refine below_set ?_ GE325.out) | exact HB.out)) hb)
          clear BK325
          clear HB
          have BK325 := n0_
          have HB := n1_
          clear n0_ n1_
          (try clear hb)
          (try clear hb2)
          (try clear hk)
          (try clear hi)
          refine hK.out _ _ ⟨(blk_cell BK325.out 0).trans rfl, (blk_cell BK325.out 1).trans rfl, (blk_cell BK325.out 2).trans rfl, (blk_cell BK325.out 3).trans rfl⟩ (fun hHeld => ?_)
          clear hK K
          refine norm_ (a' := ?_) ?_ ?_
          rotate_left
          ·
           show Act.put _ (some 27) _ = _
           simp only [Act.put, zS, zT, zU, i64_w, i32_w]
           rfl
          refine pure_ (i := 5) (N := some 28) (v := ?_) (a' := ?_) #[zB,zB,zB,zB,zB,zB,zF,zB,zB,zF,zF,zF] rfl rfl (any_of HT_.out zq6) (fun _ _ _ h => h) (Or.inl ⟨by rfl, ?_⟩) ?_ ?_
          rotate_left
          ·
           intro w'
           go_simp
           with_reducible rfl
          rotate_left
          ·
           simp only [Act.put, zS, zT, zU, i64_w, i32_w]
           rfl
          refine pure_ (i := 6) (N := some 29) (v := ?_) (a' := ?_) #[zB,zB,zB,zB,zB,zB,zB,zB,zB,zF,zF,zF] rfl rfl (any_of HT_.out zq6) (fun _ _ _ h => h) (Or.inl ⟨by rfl, ?_⟩) ?_ ?_
          rotate_left
          ·
           intro w'
           go_simp
           with_reducible rfl
          rotate_left
          ·
           simp only [Act.put, zS, zT, zU, i64_w, i32_w]
           rfl
          refine pure_ (i := 9) (N := some 32) (v := ?_) (a' := ?_) #[zB,zB,zB,zB,zB,zB,zB,zB,zB,zB,zF,zF] rfl rfl (any_of HT_.out zq6) (fun _ _ _ h => h) (Or.inl ⟨by rfl, ?_⟩) ?_ ?_
          rotate_left
          ·
           intro w'
           go_simp
           with_reducible rfl
          rotate_left
          ·
           simp only [Act.put, zS, zT, zU, i64_w, i32_w]
           rfl
          refine pure_ (i := 10) (N := some 33) (v := ?_) (a' := ?_) #[zB,zB,zB,zB,zB,zB,zB,zB,zB,zB,zB,zF] rfl rfl (any_of HT_.out zq6) (fun _ _ _ h => h) (Or.inl ⟨by rfl, ?_⟩) ?_ ?_
          rotate_left
          ·
           intro w'
           go_simp
           with_reducible rfl
          rotate_left
          ·
           simp only [Act.put, zS, zT, zU, i64_w, i32_w]
           rfl
          refine pure_ (i := 11) (N := some 2) (v := ?_) (a' := ?_) #[zB,zB,zB,zB,zB,zB,zB,zB,zB,zB,zB,zB] rfl rfl (any_of HT_.out zq6) (fun _ _ _ h => h) (Or.inl ⟨by rfl, ?_⟩) ?_ ?_
          rotate_left
          ·
           intro w'
           go_simp
           with_reducible rfl
          rotate_left
          ·
           simp only [Act.put, zS, zT, zU, i64_w, i32_w]
           rfl
          refine done_ (done_of HT_.out zq6) ?_
          try go_wp2
          go_ret
          exact ⟨zq3, (by repeat (first | (with_reducible first | exact HB.out | apply zA | apply zN | apply zD | refine below_set ?_ GE325.out) | exact HB.out))⟩
         rw [if_neg c17] at H
         exact absurd H zq12
        rw [if_neg c16] at H
        exact absurd H zq12
       rw [if_neg c15] at H
       exact absurd H zq12
      rw [if_neg c14] at H
      exact absurd H zq12
     rw [if_neg c12] at H
     exact absurd H zq12
  rw [if_neg c3] at H
  exact absurd H zq12
 rw [if_neg c2] at H
 exact absurd H zq12
end Go.Proofs.YtpnoghcdfbmpoaaGreatDoor.PX

namespace Go.Proofs.YtpnoghcdfbmpoaaGreatDoor.PX.X
open Go Go.RowKit Go.Lib Go.Proofs.YtpnoghcdfbmpoaaGreatDoorW.PrintWords Go.Proofs.YtpnoghcdfbmpoaaGreatDoor.PX
set_option linter.unusedVariables false
set_option linter.unusedSimpArgs false
theorem drawn_trans {a b c : World} (h : Drawn0 a b) (h2 : Drawn0 b c) : Drawn0 a c := by
 obtain ⟨n, rfl⟩ := h
 obtain ⟨m, rfl⟩ := h2
 exact ⟨⟨n + m, by rw [World.drewN_drewN]⟩⟩
def zeros0 (c : Nat) : List UInt8 := List.replicate c 48
set_option maxHeartbeats 1000000 in
set_option maxRecDepth 100000 in
theorem rep_calls (c : Nat) (h : c ≤ 3) (w : World) : Calls Tryz.prog 85 #[.string ⟨#[48]⟩, .int .i64 c] w fun e w' => e = .returned (.string ⟨(zeros0 c).toArray⟩) ∧ Drawn0 w w' := by
 match c, h with
 | 0, _ =>
   go_enter Tryz.func85, Tryz.ntmps85
   go_wp2
   go_ret
   exact ⟨rfl, Drawn0.refl _⟩
 | 1, _ =>
   go_enter Tryz.func85, Tryz.ntmps85
   go_wp2
   go_ret
   exact ⟨rfl, Drawn0.refl _⟩
 | 2, _ =>
   have hm : bits_Mul.f 1 2 = some (0, 2) := by decide +kernel
   have HM := Lib.hid hm
   have HB := Lib.hid (Drawn0.refl w)
   clear hm
   go_enter Tryz.func85, Tryz.ntmps85
   go_wp2_with (first | (go_at_call 118; (with_reducible refine (bits_Mul.calls 1 2 0 2 _ HM.out).mono ?_); rintro e w' ⟨rfl, hb⟩; have HB := Lib.hid (drawn_trans HB.out hb); clear hb) | (go_at_call 119; first | (refine (strings_HasPrefix.calls _ _ false _ ?h).mono ?_; (case h => decide +kernel); rintro e w2 ⟨rfl, hb⟩; have HB := Lib.hid (drawn_trans HB.out hb); clear hb) | (refine (strings_HasPrefix.calls _ _ true _ ?h).mono ?_; (case h => decide +kernel); rintro e w2 ⟨rfl, hb⟩; have HB := Lib.hid (drawn_trans HB.out hb); clear hb)))
   go_ret
   exact ⟨rfl, HB.out⟩
 | 3, _ =>
   have hm : bits_Mul.f 1 3 = some (0, 3) := by decide +kernel
   have HM := Lib.hid hm
   have HB := Lib.hid (Drawn0.refl w)
   clear hm
   go_enter Tryz.func85, Tryz.ntmps85
   go_wp2_with (first | (go_at_call 118; (with_reducible refine (bits_Mul.calls 1 3 0 3 _ HM.out).mono ?_); rintro e w' ⟨rfl, hb⟩; have HB := Lib.hid (drawn_trans HB.out hb); clear hb) | (go_at_call 119; first | (refine (strings_HasPrefix.calls _ _ false _ ?h).mono ?_; (case h => decide +kernel); rintro e w2 ⟨rfl, hb⟩; have HB := Lib.hid (drawn_trans HB.out hb); clear hb) | (refine (strings_HasPrefix.calls _ _ true _ ?h).mono ?_; (case h => decide +kernel); rintro e w2 ⟨rfl, hb⟩; have HB := Lib.hid (drawn_trans HB.out hb); clear hb)))
   go_ret
   exact ⟨rfl, HB.out⟩
def letter (k : Nat) : UInt8 := if k = 1 then 98 else if k = 2 then 116 else 99
def idB (k h : Nat) : ByteArray := ⟨(letter k :: (zeros0 (4 - (hexL h).length) ++ hexL h)).toArray⟩
end Go.Proofs.YtpnoghcdfbmpoaaGreatDoor.PX.X
