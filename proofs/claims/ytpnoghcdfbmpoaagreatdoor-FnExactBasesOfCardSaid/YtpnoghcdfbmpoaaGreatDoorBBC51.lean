/- Texts of this claim set one behind another by wip/bundle.py: XHistE, PXf34, PXf46, PXf29, PXf47, PXf22, PXf44, PXf35, PXf32, XBasL, XAncLaw, XHistV, XAncV. -/
import Derived.Test.YtpnoghcdfbmpoaaGreatDoorBBC35
import Derived.Test.YtpnoghcdfbmpoaaGreatDoorBBC50
import Derived.Test.YtpnoghcdfbmpoaaGreatDoorBBC49
import Derived.Test.YtpnoghcdfbmpoaaGreatDoorBBC15
import Derived.Test.YtpnoghcdfbmpoaaGreatDoorBBC16
import Derived.Test.YtpnoghcdfbmpoaaGreatDoorBBC23
import Derived.Test.YtpnoghcdfbmpoaaGreatDoorBBC9
import Derived.Test.YtpnoghcdfbmpoaaGreatDoorBBC47
import Derived.Test.YtpnoghcdfbmpoaaGreatDoorBBC22
import Derived.Test.YtpnoghcdfbmpoaaGreatDoorBBC10
import Derived.Lib.Hide
import Derived.Test.YtpnoghcdfbmpoaaGreatDoorBBC36
namespace Go.Proofs.YtpnoghcdfbmpoaaGreatDoor.PX.X
open Go Go.RowKit Go.Lib Go.Proofs.YtpnoghcdfbmpoaaGreatDoorW.PrintWords Go.Proofs.YtpnoghcdfbmpoaaGreatDoor.PX Go.Proofs.YtpnoghcdfbmpoaaGreatDoorX
set_option linter.unusedVariables false
def okO (l : List IObj) : Prop := l.length ≤ 200 ∧ (∀ x ∈ l, x.f2.size ≤ 1048576) ∧ ∀ i, i < l.length → ∀ j, j < l.length → i < j → lessB (oId (oAt l i)) (oId (oAt l j)) = true
instance (l : List IObj) : Decidable (okO l) := by unfold okO; infer_instance
theorem oAt_get {l : List IObj} {i : Nat} {x : IObj} (h : l[i]? = some x) : oAt l i = x := by unfold oAt; rw [List.getD_eq_getElem?_getD, h]; rfl
theorem okO_rising {l : List IObj} (h : okO l) : rising oId l := fun i j x y hij hx hy => by
 have := h.2.2 i (List.getElem?_eq_some_iff.1 hx).1 j (List.getElem?_eq_some_iff.1 hy).1 hij
 rwa [oAt_get hx, oAt_get hy] at this
def cmS (l : List IObj) (x : ByteArray) : CmR := (spec_l9Commit.f 9000001 l x).getD (⟨#[]⟩, [], 0, ⟨#[]⟩, 5)
def cmI (l : List IObj) (x : ByteArray) : CmR := (impl_commitOf.f 9000001 l x).getD (⟨#[]⟩, [], 0, ⟨#[]⟩, 5)
theorem cmS_eq {l : List IObj} (h : okO l) (x : ByteArray) : cmS l x = comV l x := by
 unfold cmS
 rw [spec_comV l x h.2.1 (okO_rising h) h.1 9000001 zq6]
 rfl
theorem cmI_eq {l : List IObj} (h : okO l) (x : ByteArray) : cmI l x = comV l x := by
 unfold cmI
 rw [impl_comV l x h.2.1 (okO_rising h) h.1 9000001 zq6]
 rfl
theorem cmS_all {l : List IObj} (h : okO l) {k : Nat} (hk : 9000000 < k) (x : ByteArray) : spec_l9Commit.f k l x = some (cmS l x) := by
 rw [cmS_eq h, spec_comV l x h.2.1 (okO_rising h) h.1 k hk]
theorem cmI_all {l : List IObj} (h : okO l) {k : Nat} (hk : 9000000 < k) (x : ByteArray) : impl_commitOf.f k l x = some (cmI l x) := by
 rw [cmI_eq h, impl_comV l x h.2.1 (okO_rising h) h.1 k zq6]
def histF (k : Nat) (l : List IObj) (id : ByteArray) : Option (List ByteArray × Int) := if 9000000 < k ∧ okO l then histS (cmS l) k id else none
def reachF (k : Nat) (l : List IObj) (T : List ByteArray) : Option (List ByteArray) := if (9000000 < k ∧ okO l) ∧ T.length ≤ 1048576 then (reachI (cmI l) k [] T).map sortB else none
end Go.Proofs.YtpnoghcdfbmpoaaGreatDoor.PX.X

namespace Go.Proofs.YtpnoghcdfbmpoaaGreatDoor.PX
open Go.RowKit Go.Proofs.YtpnoghcdfbmpoaaGreatDoorW.PrintWords Go.Proofs.YtpnoghcdfbmpoaaGreatDoorW.PrintLast Go.Proofs.YtpnoghcdfbmpoaaGreatDoorW.PrintMore
attribute [local go_sem] max2_int min2_int max_two min_two max_three min_three max_four min_four   -- for this text's walks alone
set_option linter.unusedVariables false
set_option linter.unusedSimpArgs false
def spec_l9History.f (k : Nat) (l0 : List (S50)) (a1 : ByteArray) : Option (List ByteArray × Int) := X.histF k l0 a1
theorem spec_l9History.calls (k : Nat) (A0 : Option Addr) (c0 : Nat) (l0 : List (S50)) (a1 : ByteArray) (r1 : List ByteArray) (r2 : Int) (w : World) (hr0 : Kd.C k50 w A0 l0.length l0) (hc0 : l0.length ≤ c0) (h : spec_l9History.f k l0 a1 = some (r1, r2)) :
  Calls Tryz.prog 34 #[.slice A0 l0.length c0, .string a1] w fun e w' => ∃ v0_ : Value, e = .returned (.tuple #[v0_, .int .i64 r2]) ∧ Kd.R Kd.string 9 w' w.heap.size (fun _ => True) v0_ r1 ∧ Below w.heap.size w w' := by
 unfold spec_l9History.f X.histF at h
 by_cases hk : 9000000 < k ∧ X.okO l0
 ·
  rw [if_pos hk] at h
  exact X.histS_calls k A0 c0 l0 a1 (X.cmS l0) w hr0 hc0 zq6 (X.cmS_all hk.2 hk.1) r1 r2 h
 rw [if_neg hk] at h
 cases h
def spec_l9Both.f (k : Nat) (l0 : List (S50)) (a1 : ByteArray) (a2 : ByteArray) : Option (List ByteArray × List ByteArray × Int) := (spec_l9History.f k l0 a1).bind fun bt571 => (if bt571.2 = 0 then ((spec_l9History.f k l0 a2).bind fun bt575 => (some (bt571.1, bt575.1, bt575.2))) else (some (([] : List ByteArray), ([] : List ByteArray), bt571.2)))
set_option maxHeartbeats 8000000 in
set_option maxRecDepth 100000 in
theorem spec_l9Both.calls (k : Nat) (A0 : Option Addr) (c0 : Nat) (l0 : List (S50)) (a1 : ByteArray) (a2 : ByteArray) (r1 : List ByteArray) (r2 : List ByteArray) (r3 : Int) (w : World) (hr0 : Kd.C k50 w A0 l0.length l0) (hc0 : l0.length ≤ c0) (h : spec_l9Both.f k l0 a1 a2 = some (r1, r2, r3)) :
  Calls Tryz.prog 46 #[.slice A0 l0.length c0, .string a1, .string a2] w fun e w' => ∃ v0_ v1_ : Value, e = .returned (.tuple #[v0_, v1_, .int .i64 r3]) ∧ Kd.R Kd.string 9 w' w.heap.size (fun k_ => some k_ ≠ (v1_ : Value).ownBlock) v0_ r1 ∧ Kd.R Kd.string 9 w' w.heap.size (fun k_ => some k_ ≠ (v0_ : Value).ownBlock) v1_ r2 ∧ Below w.heap.size w w' := by
 have HR0 := zK hr0
 have HC0 := zK hc0
 clear hr0 hc0
 have HB := zK (Below.refl w.heap.size w)
 have H : ((spec_l9History.f k l0 a1).bind fun bt571 => (if bt571.2 = 0 then ((spec_l9History.f k l0 a2).bind fun bt575 => (some (bt571.1, bt575.1, bt575.2))) else (some (([] : List ByteArray), ([] : List ByteArray), bt571.2)))) = some (r1, r2, r3) := h
 clear h
 replace H := Option.bind_eq_some_iff.mp H
 obtain ⟨⟨t571, t572⟩, A40, H⟩ := H
 replace H : (if t572 = 0 then ((spec_l9History.f k l0 a2).bind fun bt575 => (some (t571, bt575.1, bt575.2))) else (some (([] : List ByteArray), ([] : List ByteArray), t572))) = some (r1, r2, r3) := H
 have A4 := zK A40
 clear A40
 by_cases c5 : t572 = 0
 ·
  rw [if_pos c5] at H
  have c5b0 : (t572 == 0) = true := beq_iff_eq.mpr c5
  have c5b1 : (t572 != 0) = false := bne_eq_false_iff_eq.mpr c5
  clear c5
  replace H := Option.bind_eq_some_iff.mp H
  obtain ⟨⟨t575, t576⟩, A60, H⟩ := H
  replace H : (some (t571, t575, t576)) = some (r1, r2, r3) := H
  have A6 := zK A60
  clear A60
  simp only [Option.some.injEq, Prod.mk.injEq] at H
  obtain ⟨rfl, rfl, rfl⟩ := H
  go_enter Tryz.func46, Tryz.ntmps46
  go_wp2_with (first | ((with_reducible refine gate_callee (f := 34) rfl ?_); refine goesL_ (some 15) rfl rfl Tryz.func34 zq5 rfl #[.slice A0 l0.length c0, .string a1] rfl zq1 ?_; (with_reducible refine (spec_l9History.calls k _ _ l0 a1 t571 t572 _ ?side1 ?side2 A4.out).mono ?_); (case side1 => repeat (first | exact HR0.out | (with_reducible refine Kd.C_alloc ?_ _) | (with_reducible refine Kd.C_drewN ?_ _) | (with_reducible refine Kd.C_drew ?_))); (case side2 => exact HC0.out); rintro e w7 ⟨v573, rfl, ho0, hb⟩; refine ⟨_, rfl, ?_⟩; have n0_ := zK (Kd.R_lower ho0 (below_size zq0)); have n1_ := zK (below_step zq0 hb); clear HB; have HO574 := n0_; have HB := n1_; clear n0_ n1_; (try clear hb); (try clear hb2); (try clear hk); (try clear hi); (try clear ho0)) | ((with_reducible refine gate_callee (f := 34) rfl ?_); refine goesL_ (some 24) rfl rfl Tryz.func34 zq5 rfl #[.slice A0 l0.length c0, .string a2] rfl zq1 ?_; (with_reducible refine (spec_l9History.calls k _ _ l0 a2 t575 t576 _ ?side1 ?side2 A6.out).mono ?_); (case side1 => repeat (first | exact (Kd.C_below HR0.out HB.out) | (with_reducible refine Kd.C_alloc ?_ _) | (with_reducible refine Kd.C_drewN ?_ _) | (with_reducible refine Kd.C_drew ?_))); (case side2 => exact HC0.out); rintro e w8 ⟨v577, rfl, ho0, hb⟩; refine ⟨_, rfl, ?_⟩; have n0_ := zK (Kd.R_elder' (by (with_reducible repeat (first | apply zR | apply zV | apply zW)); exact HO574.out) (Kd.R_base ho0) hb); have n1_ := zK (Kd.R_lower (Kd.R_new' ho0 (Kd.R_lt (by (with_reducible repeat (first | apply zR | apply zV | apply zW)); exact HO574.out))) (below_size zq0)); have n2_ := zK (below_step zq0 hb); clear HO574; clear HB; have HO574 := n0_; have HO578 := n1_; have HB := n2_; clear n0_ n1_ n2_; (try clear hb); (try clear hb2); (try clear hk); (try clear hi); (try clear ho0)))
  go_ret3
  exact ⟨_, _, zq3, (by (with_reducible repeat (first | apply zR | apply zV | apply zW)); exact Kd.R_mono HO574.out (fun _ hk => hk.2)), (by (with_reducible repeat (first | apply zR | apply zV | apply zW)); exact Kd.R_mono HO578.out (fun _ hk => hk.2)), zq0⟩
 rw [if_neg c5] at H
 have c5b0 : (t572 == 0) = false := beq_eq_false_iff_ne.mpr c5
 have c5b1 : (t572 != 0) = true := bne_iff_ne.mpr c5
 simp only [Option.some.injEq, Prod.mk.injEq] at H
 obtain ⟨rfl, rfl, rfl⟩ := H
 go_enter Tryz.func46, Tryz.ntmps46
 go_wp2_with (first | ((with_reducible refine gate_callee (f := 34) rfl ?_); refine goesL_ (some 15) rfl rfl Tryz.func34 zq5 rfl #[.slice A0 l0.length c0, .string a1] rfl zq1 ?_; (with_reducible refine (spec_l9History.calls k _ _ l0 a1 t571 t572 _ ?side1 ?side2 A4.out).mono ?_); (case side1 => repeat (first | exact HR0.out | (with_reducible refine Kd.C_alloc ?_ _) | (with_reducible refine Kd.C_drewN ?_ _) | (with_reducible refine Kd.C_drew ?_))); (case side2 => exact HC0.out); rintro e w9 ⟨v573, rfl, ho0, hb⟩; refine ⟨_, rfl, ?_⟩; have n0_ := zK (Kd.R_lower ho0 (below_size zq0)); have n1_ := zK (below_step zq0 hb); clear HB; have HO574 := n0_; have HB := n1_; clear n0_ n1_; (try clear hb); (try clear hb2); (try clear hk); (try clear hi); (try clear ho0)))
 go_ret3
 exact ⟨_, _, zq3, zq9, zq9, zq0⟩
def spec_l9Ancestor.f (k : Nat) (l0 : List (S50)) (a1 : ByteArray) (a2 : ByteArray) : Option (Bool) := (spec_l9History.f k l0 a2).bind fun bt221 => (if bt221.2 = 0 then ((spec_l9Has.f k bt221.1 a1).bind fun t225 => (some t225)) else (some false))
set_option maxHeartbeats 8000000 in
set_option maxRecDepth 100000 in
theorem spec_l9Ancestor.calls (k : Nat) (A0 : Option Addr) (c0 : Nat) (l0 : List (S50)) (a1 : ByteArray) (a2 : ByteArray) (r : Bool) (w : World) (hr0 : Kd.C k50 w A0 l0.length l0) (hc0 : l0.length ≤ c0) (h : spec_l9Ancestor.f k l0 a1 a2 = some r) :
  Calls Tryz.prog 29 #[.slice A0 l0.length c0, .string a1, .string a2] w fun e w' => e = .returned (.bool r) ∧ Below w.heap.size w w' := by
 have HR0 := zK hr0
 have HC0 := zK hc0
 clear hr0 hc0
 have HB := zK (Below.refl w.heap.size w)
 have H : ((spec_l9History.f k l0 a2).bind fun bt221 => (if bt221.2 = 0 then ((spec_l9Has.f k bt221.1 a1).bind fun t225 => (some t225)) else (some false))) = some r := h
 clear h
 replace H := Option.bind_eq_some_iff.mp H
 obtain ⟨⟨t221, t222⟩, A40, H⟩ := H
 replace H : (if t222 = 0 then ((spec_l9Has.f k t221 a1).bind fun t225 => (some t225)) else (some false)) = some r := H
 have A4 := zK A40
 clear A40
 by_cases c5 : t222 = 0
 ·
  rw [if_pos c5] at H
  have c5b0 : (t222 == 0) = true := beq_iff_eq.mpr c5
  have c5b1 : (t222 != 0) = false := bne_eq_false_iff_eq.mpr c5
  clear c5
  replace H := Option.bind_eq_some_iff.mp H
  obtain ⟨t225, A60, H⟩ := H
  replace H : (some t225) = some r := H
  have A6 := zK A60
  clear A60
  obtain rfl := Option.some.inj H
  go_enter Tryz.func29, Tryz.ntmps29
  go_wp2_with (first | ((with_reducible refine gate_callee (f := 34) rfl ?_); refine goesL_ (some 12) rfl rfl Tryz.func34 zq5 rfl #[.slice A0 l0.length c0, .string a2] rfl zq1 ?_; (with_reducible refine (spec_l9History.calls k _ _ l0 a2 t221 t222 _ ?side1 ?side2 A4.out).mono ?_); (case side1 => repeat (first | exact HR0.out | (with_reducible refine Kd.C_alloc ?_ _) | (with_reducible refine Kd.C_drewN ?_ _) | (with_reducible refine Kd.C_drew ?_))); (case side2 => exact HC0.out); rintro e w7 ⟨v223, rfl, ho0, hb⟩; refine ⟨_, rfl, ?_⟩; have n0_ := zK (Kd.R_lower ho0 (below_size zq0)); have n1_ := zK (below_step zq0 hb); clear HB; have HO224 := n0_; have HB := n1_; clear n0_ n1_; (try clear hb); (try clear hb2); (try clear hk); (try clear hi); (try clear ho0); obtain ⟨Ao8, co8, eo8⟩ := Kd.R_slice HO224.out; subst eo8) | (go_at_call 57; (with_reducible refine (spec_l9Has.calls k _ _ t221 a1 t225 _ ?side1 ?side2 A6.out).mono ?_); (case side1 => repeat (first | exact (Kd.R_reads' HO224.out).2.2 | (with_reducible refine Kd.C_alloc ?_ _) | (with_reducible refine Kd.C_drewN ?_ _) | (with_reducible refine Kd.C_drew ?_))); (case side2 => exact (Kd.R_reads' HO224.out).2.1); rintro e w' ⟨rfl, ⟨nd, rfl⟩⟩))
  go_ret
  exact ⟨zq3, zq0⟩
 rw [if_neg c5] at H
 have c5b0 : (t222 == 0) = false := beq_eq_false_iff_ne.mpr c5
 have c5b1 : (t222 != 0) = true := bne_iff_ne.mpr c5
 obtain rfl := Option.some.inj H
 go_enter Tryz.func29, Tryz.ntmps29
 go_wp2_with (first | ((with_reducible refine gate_callee (f := 34) rfl ?_); refine goesL_ (some 12) rfl rfl Tryz.func34 zq5 rfl #[.slice A0 l0.length c0, .string a2] rfl zq1 ?_; (with_reducible refine (spec_l9History.calls k _ _ l0 a2 t221 t222 _ ?side1 ?side2 A4.out).mono ?_); (case side1 => repeat (first | exact HR0.out | (with_reducible refine Kd.C_alloc ?_ _) | (with_reducible refine Kd.C_drewN ?_ _) | (with_reducible refine Kd.C_drew ?_))); (case side2 => exact HC0.out); rintro e w9 ⟨v223, rfl, ho0, hb⟩; refine ⟨_, rfl, ?_⟩; have n0_ := zK (Kd.R_lower ho0 (below_size zq0)); have n1_ := zK (below_step zq0 hb); clear HB; have HO224 := n0_; have HB := n1_; clear n0_ n1_; (try clear hb); (try clear hb2); (try clear hk); (try clear hi); (try clear ho0)))
 go_ret
 exact ⟨zq3, zq0⟩
mutual
def spec_l9Bases.l0 : Nat → List (S50) → List ByteArray → List ByteArray → List ByteArray → Int → Option (List ByteArray)
 | 0, _, _, _, _, _ => none
 | k + 1, x0, x1, x2, x7, x8 => if x8 < (x1.length : Int) then (if 0 ≤ x8 then ((spec_l9Has.f k x2 (rdOf ByteArray.empty x1 x8)).bind fun t583 => (if t583 = true then (if x7.length < 8796093022208 then (spec_l9Bases.l0 k x0 x1 x2 (x7 ++ [rdOf ByteArray.empty x1 x8]) (wrap64 (x8 + 1))) else (none)) else (spec_l9Bases.l0 k x0 x1 x2 x7 (wrap64 (x8 + 1))))) else (none)) else (spec_l9Bases.l1 k x0 x7 (([] : List ByteArray)) 0)
def spec_l9Bases.l1 : Nat → List (S50) → List ByteArray → List ByteArray → Int → Option (List ByteArray)
 | 0, _, _, _, _ => none
 | k + 1, x0, x7, x9, x10 => if x10 < (x7.length : Int) then (spec_l9Bases.l2 k x0 x7 x9 x10 true 0) else (some x9)
def spec_l9Bases.l2 : Nat → List (S50) → List ByteArray → List ByteArray → Int → Bool → Int → Option (List ByteArray)
 | 0, _, _, _, _, _, _ => none
 | k + 1, x0, x7, x9, x10, x11, x12 => if x12 < (x7.length : Int) then (if x11 = true then (if x10 = x12 then (spec_l9Bases.l2 k x0 x7 x9 x10 true (wrap64 (x12 + 1))) else (if 0 ≤ x10 then (if x10 < (x7.length : Int) then (if 0 ≤ x12 then ((spec_l9Ancestor.f k x0 (rdOf ByteArray.empty x7 x10) (rdOf ByteArray.empty x7 x12)).bind fun t593 => (spec_l9Bases.l2 k x0 x7 x9 x10 (!t593) (wrap64 (x12 + 1)))) else (none)) else (none)) else (none))) else (spec_l9Bases.l2 k x0 x7 x9 x10 false (wrap64 (x12 + 1)))) else (if x11 = true then (if 0 ≤ x10 then (if x10 < (x7.length : Int) then (if x9.length < 8796093022208 then (spec_l9Bases.l1 k x0 x7 (x9 ++ [rdOf ByteArray.empty x7 x10]) (wrap64 (x10 + 1))) else (none)) else (none)) else (none)) else (spec_l9Bases.l1 k x0 x7 x9 (wrap64 (x10 + 1))))
end
def spec_l9Bases.f (k : Nat) (l0 : List (S50)) (l1 : List ByteArray) (l2 : List ByteArray) : Option (List ByteArray) := spec_l9Bases.l0 k l0 l1 l2 (([] : List ByteArray)) 0
def spec_l9Bases.T15 : Bool × List (List Nat × List Nat) := (true, [([], []), ([0], [0]), ([1], [1]), ([1], [1]), ([2, 3, 1], [1, 2, 3]), ([4, 1, 1], [1, 4]), ([5], [5]), ([5], [5]), ([5], [5]), ([7, 8, 5], [5, 7, 8]), ([9, 5], [5, 9]), ([5], [5]), ([5], [5]), ([11, 12, 5], [5, 11, 12]), ([13, 5], [5, 13]), ([6, 10, 14, 5, 5], [5, 6, 10, 14]), ([15, 5], [5, 15]), ([5, 16, 1], [1, 5, 16]), ([1, 17], [1, 17]), ([18, 15, 0, 1, 2, 3, 4, 5, 6, 7, 8, 9, 10, 11, 12, 13, 14, 15, 16, 17, 18], [0, 18])])
def spec_l9Bases.B15 : List Nat := [0, 1, 3, 3, 15, 31, 63, 63, 63, 447, 959, 63, 63, 6207, 14399, 32767, 65535, 131071, 262143, 524287]
theorem spec_l9Bases.tab15 : rtab .any (opsOf Tryz.f47 15) = spec_l9Bases.T15 := by kernel_rfl
theorem spec_l9Bases.bits15 : waitsOk spec_l9Bases.T15.2 spec_l9Bases.B15 = true := by kernel_rfl
set_option maxHeartbeats 8000000 in
set_option maxRecDepth 100000 in
theorem spec_l9Bases.calls (k : Nat) (A0 : Option Addr) (c0 : Nat) (l0 : List (S50)) (A1 : Option Addr) (c1 : Nat) (l1 : List ByteArray) (A2 : Option Addr) (c2 : Nat) (l2 : List ByteArray) (r : List ByteArray) (w : World) (hr0 : Kd.C k50 w A0 l0.length l0) (hc0 : l0.length ≤ c0) (hr1 : Kd.C Kd.string w A1 l1.length l1) (hc1 : l1.length ≤ c1) (hr2 : Kd.C Kd.string w A2 l2.length l2) (hc2 : l2.length ≤ c2) (h : spec_l9Bases.f k l0 l1 l2 = some r) :
  Calls Tryz.prog 47 #[.slice A0 l0.length c0, .slice A1 l1.length c1, .slice A2 l2.length c2] w fun e w' => ∃ v0_ : Value, e = .returned (v0_) ∧ Kd.R Kd.string 9 w' w.heap.size (fun _ => True) v0_ r ∧ Below w.heap.size w w' := by
 have HR0 := zK hr0
 have HC0 := zK hc0
 clear hr0 hc0
 have HR1 := zK hr1
 have HC1 := zK hc1
 clear hr1 hc1
 have HR2 := zK hr2
 have HC2 := zK hc2
 clear hr2 hc2
 have HB := zK (Below.refl w.heap.size w)
 have H : (spec_l9Bases.l0 k l0 l1 l2 (([] : List ByteArray)) 0) = some r := h
 clear h
 obtain ⟨y579, hy579⟩ : ∃ y_ : List ByteArray, y_ = (([] : List ByteArray)) := ⟨_, rfl⟩
 replace H : (spec_l9Bases.l0 k l0 l1 l2 y579 0) = some r := by first | (rw [hy579]; with_reducible exact H) | (have H2_ := (Option.bind_some _ _).symm.trans H; rw [hy579]; with_reducible exact H2_) | (have H2_ := (Option.bind_some _ _).symm.trans H; with_reducible exact H2_) | with_reducible exact H | (rw [hy579]; exact H) | exact H
 have Ny579 := zK hy579
 clear hy579
 have H' := zK H
 clear H
 go_enter Tryz.func47, Tryz.ntmps47
 go_wp2_with (first | ((with_reducible refine gate_dst (N := 13) rfl ?_); refine Kd.R_lit Kd.string _ 9 ?hg (N := 13) ?hd (xs := ([] : List ByteArray)) (inner := []) (ok := fun _ => True) (okp := fun _ => True) ?hr ?hp (fun _ hk => hk) trivial (Below.refl _ _) (Nat.le_refl _) zq13 ?_; (case hd => rfl); (case hg => rfl); (case hr => first | (go_simp; done) | (go_simp; rfl)); (case hp => exact (Reps.none _ _)); intro v580 w4 ho5 hb hg_ hnew_; clear hg_ hnew_; (first | rw [← Ny579.out] at ho5 | (simp only [Int.reduceToNat] at ho5; rw [← Ny579.out] at ho5)); have n0_ := zK (Kd.R_lower ho5 (below_size zq0)); have n1_ := zK (below_step zq0 hb); clear HB; have HO581 := n0_; have HB := n1_; clear n0_ n1_; clear hb ho5))
 go_loopg [7, 8] k (fun kq v7 v8 w' => ∃ (x7_1 : List ByteArray) (x8_1 : Int), v8 = .int .i64 x8_1 ∧ Aside0 (spec_l9Bases.l0 kq l0 l1 l2 x7_1 x8_1 = some r) ∧ Aside0 (kq ≤ k) ∧ Aside0 (Kd.R Kd.string 9 w' w.heap.size (fun _ => True) v7 x7_1) ∧ Aside0 (Below w.heap.size w w'))
 case atStart => exact ⟨(y579), (0), zq4, H', ⟨Nat.le_refl _⟩, ⟨by (with_reducible repeat (first | apply zR | apply zV | apply zW)); exact HO581.out⟩, ⟨by repeat (first | (with_reducible first | exact HB.out | apply zA | apply zN | apply zD) | exact HB.out)⟩⟩
 case round =>
  clear H'
  try clear c1
  try clear c2
  try clear p2
  try clear c4
  obtain ⟨x7_1, x8_1, rfl, HA, HK1, HO_7, HB⟩ := hrel
  cases gk with
  | zero => exact absurd HA.out (by simp [spec_l9Bases.l0])
  | succ k1 =>
   have H := HA.out
   clear HA
   simp only [spec_l9Bases.l0] at H
   by_cases c6 : x8_1 < (l1.length : Int)
   ·
    rw [if_pos c6] at H
    have c6b0 : decide (x8_1 < (l1.length : Int)) = true := decide_eq_true c6
    clear c6
    by_cases c7 : 0 ≤ x8_1
    ·
     rw [if_pos c7] at H
     have c7b0 : decide (0 ≤ x8_1) = true := decide_eq_true c7
     clear c7
     replace H := Option.bind_eq_some_iff.mp H
     obtain ⟨t583, A80, H⟩ := H
     replace H : (if t583 = true then (if x7_1.length < 8796093022208 then (spec_l9Bases.l0 k1 l0 l1 l2 (x7_1 ++ [rdOf ByteArray.empty l1 x8_1]) (wrap64 (x8_1 + 1))) else (none)) else (spec_l9Bases.l0 k1 l0 l1 l2 x7_1 (wrap64 (x8_1 + 1)))) = some r := H
     have A8 := zK A80
     clear A80
     by_cases c9 : t583 = true
     ·
      subst c9
      have H1 : (if x7_1.length < 8796093022208 then (spec_l9Bases.l0 k1 l0 l1 l2 (x7_1 ++ [rdOf ByteArray.empty l1 x8_1]) (wrap64 (x8_1 + 1))) else (none)) = some r := by rw [if_pos rfl] at H; exact H
      clear H
      have H := H1
      clear H1
      by_cases c10 : x7_1.length < 8796093022208
      ·
       rw [if_pos c10] at H
       have LMc10 := zK c10
       clear c10
       obtain ⟨y585, hy585⟩ : ∃ y_ : List ByteArray, y_ = (x7_1 ++ [rdOf ByteArray.empty l1 x8_1]) := ⟨_, rfl⟩
       replace H : (spec_l9Bases.l0 k1 l0 l1 l2 y585 (wrap64 (x8_1 + 1))) = some r := by first | (rw [hy585]; with_reducible exact H) | (have H2_ := (Option.bind_some _ _).symm.trans H; rw [hy585]; with_reducible exact H2_) | (have H2_ := (Option.bind_some _ _).symm.trans H; with_reducible exact H2_) | with_reducible exact H | (rw [hy585]; exact H) | exact H
       have Ny585 := zK hy585
       clear hy585
       have H' := zK H
       clear H
       have p582 : 0 ≤ (x8_1 : Int) := zX zq2
       have q582 : x8_1 < (l1.length : Int) := zX zq2
       obtain ⟨ad582, e582, hx582_0⟩ := Kd.at_string HR1.out x8_1 p582 q582
       cases e582
       replace hx582_0 := (HB.out.cell (zL w _ hx582_0)).trans hx582_0
       replace p582 := eq_true p582
       replace q582 := eq_true q582
       go_wp2_with (first | ((with_reducible refine gate_callee (f := 57) rfl ?_); refine goesL_ (some 25) rfl rfl Tryz.func57 zq5 rfl #[.slice A2 l2.length c2, .string (rdOf ByteArray.empty l1 x8_1)] rfl zq1 ?_; (with_reducible refine (spec_l9Has.calls k1 _ _ l2 (rdOf ByteArray.empty l1 x8_1) true _ ?side1 ?side2 A8.out).mono ?_); (case side1 => repeat (first | exact (Kd.C_below HR2.out HB.out) | (with_reducible refine Kd.C_alloc ?_ _) | (with_reducible refine Kd.C_drewN ?_ _) | (with_reducible refine Kd.C_drew ?_))); (case side2 => exact HC2.out); rintro e w' ⟨rfl, ⟨nd, rfl⟩⟩; refine ⟨_, rfl, ?_⟩; have p584 : 0 ≤ (x8_1 : Int) := zX zq2; have q584 : x8_1 < (l1.length : Int) := zX zq2; obtain ⟨ad584, e584, hx584_0⟩ := Kd.at_string HR1.out x8_1 p584 q584; obtain rfl : ad582 = ad584 := (by injection e584); replace hx584_0 := (HB.out.cell (zL w _ hx584_0)).trans hx584_0; replace p584 := eq_true p584; replace q584 := eq_true q584) | ((with_reducible refine gate_builtin (b := .append) (xs := #[.tmp 26, .tmp 31]) rfl ?_); at_builtin; refine Kd.R_append Kd.string (w0 := w) w.heap.size rfl (.tmp 26) (.tmp 31) 29 9 (.string ⟨#[]⟩) 16 rfl Tryz.underlying29 info9 rfl zq10 zq6 u7 x7_1 (rdOf ByteArray.empty l1 x8_1) [.string (rdOf ByteArray.empty l1 x8_1)] (fun _ => True) (fun _ => False) rfl rfl ?aP (fun _ hk => hk.elim) ?aF ?aO ?aB ?aS ?aL ?_; (case aP => exact rfl); (case aB => exact zq0); (case aF => exact (fun _ _ => trivial)); (case aO => exact zq25); (case aS => exact (below_size zq0)); (case aL => have := LMc10.out; omega); intro v586 w11 ho hb hg hat; rw [← Ny585.out] at ho; have n0_ := zK (hb); have n1_ := zK (ho); clear HB; clear HO_7; have HB := n0_; have HO587 := n1_; clear n0_ n1_; clear ho hb hg hat))
       go_roundg k1
       case measure => have := HK1.out; omega
       case rel => exact ⟨(y585), (wrap64 (x8_1 + 1)), zq4, H', ⟨by have := HK1.out; omega⟩, ⟨by (with_reducible repeat (first | apply zR | apply zV | apply zW)); exact HO587.out⟩, ⟨by repeat (first | (with_reducible first | exact HB.out | apply zA | apply zN | apply zD) | exact HB.out)⟩⟩
      rw [if_neg c10] at H
      exact absurd H zq13
     replace c9 := Bool.eq_false_iff.mpr c9
     subst c9
     have H1 : (spec_l9Bases.l0 k1 l0 l1 l2 x7_1 (wrap64 (x8_1 + 1))) = some r := by rw [if_neg (show ¬ (false = true) by decide)] at H; exact H
     clear H
     have H := H1
     clear H1
     have H' := zK H
     clear H
     have p582 : 0 ≤ (x8_1 : Int) := zX zq2
     have q582 : x8_1 < (l1.length : Int) := zX zq2
     obtain ⟨ad582, e582, hx582_0⟩ := Kd.at_string HR1.out x8_1 p582 q582
     cases e582
     replace hx582_0 := (HB.out.cell (zL w _ hx582_0)).trans hx582_0
     replace p582 := eq_true p582
     replace q582 := eq_true q582
     go_wp2_with (first | ((with_reducible refine gate_callee (f := 57) rfl ?_); refine goesL_ (some 25) rfl rfl Tryz.func57 zq5 rfl #[.slice A2 l2.length c2, .string (rdOf ByteArray.empty l1 x8_1)] rfl zq1 ?_; (with_reducible refine (spec_l9Has.calls k1 _ _ l2 (rdOf ByteArray.empty l1 x8_1) false _ ?side1 ?side2 A8.out).mono ?_); (case side1 => repeat (first | exact (Kd.C_below HR2.out HB.out) | (with_reducible refine Kd.C_alloc ?_ _) | (with_reducible refine Kd.C_drewN ?_ _) | (with_reducible refine Kd.C_drew ?_))); (case side2 => exact HC2.out); rintro e w' ⟨rfl, ⟨nd, rfl⟩⟩; refine ⟨_, rfl, ?_⟩))
     go_roundg k1
     case measure => have := HK1.out; omega
     case rel => exact ⟨(x7_1), (wrap64 (x8_1 + 1)), zq4, H', ⟨by have := HK1.out; omega⟩, ⟨by (with_reducible repeat (first | apply zR | apply zV | apply zW)); exact HO_7.out⟩, ⟨by repeat (first | (with_reducible first | exact HB.out | apply zA | apply zN | apply zD) | exact HB.out)⟩⟩
    rw [if_neg c7] at H
    exact absurd H zq13
   rw [if_neg c6] at H
   have c6b0 : decide (x8_1 < (l1.length : Int)) = false := decide_eq_false c6
   clear c6
   obtain ⟨y588, hy588⟩ : ∃ y_ : List ByteArray, y_ = (([] : List ByteArray)) := ⟨_, rfl⟩
   replace H : (spec_l9Bases.l1 k1 l0 x7_1 y588 0) = some r := by first | (rw [hy588]; with_reducible exact H) | (have H2_ := (Option.bind_some _ _).symm.trans H; rw [hy588]; with_reducible exact H2_) | (have H2_ := (Option.bind_some _ _).symm.trans H; with_reducible exact H2_) | with_reducible exact H | (rw [hy588]; exact H) | exact H
   have Ny588 := zK hy588
   clear hy588
   have H' := zK H
   clear H
   go_wp2_with (first | ((with_reducible refine gate_dst (N := 33) rfl ?_); refine Kd.R_lit Kd.string _ 9 ?hg (N := 33) ?hd (xs := ([] : List ByteArray)) (inner := []) (ok := fun _ => True) (okp := fun _ => True) ?hr ?hp (fun _ hk => hk) trivial (Below.refl _ _) (Nat.le_refl _) zq13 ?_; (case hd => rfl); (case hg => rfl); (case hr => first | (go_simp; done) | (go_simp; rfl)); (case hp => exact (Reps.none _ _)); intro v589 w12 ho13 hb hg_ hnew_; clear hg_ hnew_; (first | rw [← Ny588.out] at ho13 | (simp only [Int.reduceToNat] at ho13; rw [← Ny588.out] at ho13)); have n0_ := zK (Kd.R_elder' zq25 (Kd.R_base ho13) hb); have n1_ := zK (Kd.R_lower (Kd.R_new' ho13 (Kd.R_lt zq25)) (below_size zq0)); have n2_ := zK (below_step zq0 hb); clear HO_7; clear HB; have HO_7 := n0_; have HO590 := n1_; have HB := n2_; clear n0_ n1_ n2_; clear hb ho13))
   go_loopg [9, 10] k1 (fun kq v9 v10 w' => ∃ (x9_2 : List ByteArray) (x10_2 : Int), v10 = .int .i64 x10_2 ∧ Aside0 (spec_l9Bases.l1 kq l0 x7_1 x9_2 x10_2 = some r) ∧ Aside0 (kq ≤ k1) ∧ Aside0 (Kd.R Kd.string 9 w' w.heap.size (fun k_ => some k_ ≠ (v9 : Value).ownBlock) u7 x7_1) ∧ Aside0 (Kd.R Kd.string 9 w' w.heap.size (fun k_ => some k_ ≠ (u7 : Value).ownBlock) v9 x9_2) ∧ Aside0 (Below w.heap.size w w'))
   case atStart => exact ⟨(y588), (0), zq4, H', ⟨Nat.le_refl _⟩, ⟨by (with_reducible repeat (first | apply zR | apply zV | apply zW)); exact Kd.R_mono HO_7.out (fun _ hk => hk.2)⟩, ⟨by (with_reducible repeat (first | apply zR | apply zV | apply zW)); exact Kd.R_mono HO590.out (fun _ hk => hk.2)⟩, ⟨by repeat (first | (with_reducible first | exact HB.out | apply zA | apply zN | apply zD) | exact HB.out)⟩⟩
   case round =>
    clear H'
    try clear c1
    try clear c2
    try clear p2
    try clear c4
    try clear c5
    try clear p5
    try clear q5
    try clear hx5
    try clear c6
    try clear c6b0
    try clear p6
    try clear c7
    try clear c7b0
    try clear c9
    try clear c10
    try clear hx582_0
    try clear hx584_0
    try clear p2
    try clear p582
    try clear p584
    try clear q582
    try clear q584
    obtain ⟨x9_2, x10_2, rfl, HA, HK2, HO_7, HO_9, HB⟩ := hrel
    cases gk with
    | zero => exact absurd HA.out (by simp [spec_l9Bases.l1])
    | succ k2 =>
     have H := HA.out
     clear HA
     simp only [spec_l9Bases.l1] at H
     by_cases c14 : x10_2 < (x7_1.length : Int)
     ·
      rw [if_pos c14] at H
      have c14b0 : decide (x10_2 < (x7_1.length : Int)) = true := decide_eq_true c14
      clear c14
      have H' := zK H
      clear H
      obtain ⟨Ao15, co15, eo15⟩ := Kd.R_slice HO_7.out
      subst eo15
      go_wp2
      go_loopg [11, 12] k2 (fun kq v11 v12 w' => ∃ (x11_3 : Bool) (x12_3 : Int), v11 = .bool x11_3 ∧ v12 = .int .i64 x12_3 ∧ Aside0 (spec_l9Bases.l2 kq l0 x7_1 x9_2 x10_2 x11_3 x12_3 = some r) ∧ Aside0 (kq ≤ k2) ∧ Aside0 (Kd.R Kd.string 9 w' w.heap.size (fun k_ => some k_ ≠ (u9 : Value).ownBlock) (.slice Ao15 x7_1.length co15) x7_1) ∧ Aside0 (Kd.R Kd.string 9 w' w.heap.size (fun k_ => some k_ ≠ ((.slice Ao15 x7_1.length co15) : Value).ownBlock) u9 x9_2) ∧ Aside0 (Below w.heap.size w w'))
      case atStart => exact ⟨(true), (0), zq4, zq4, H', ⟨Nat.le_refl _⟩, ⟨by (with_reducible repeat (first | apply zR | apply zV | apply zW)); exact HO_7.out⟩, ⟨by (with_reducible repeat (first | apply zR | apply zV | apply zW)); exact HO_9.out⟩, ⟨by repeat (first | (with_reducible first | exact HB.out | apply zA | apply zN | apply zD) | exact HB.out)⟩⟩
      case round =>
       clear H'
       try clear c1
       try clear c2
       try clear p2
       try clear c4
       try clear c5
       try clear p5
       try clear q5
       try clear hx5
       try clear c6
       try clear c6b0
       try clear p6
       try clear c7
       try clear c7b0
       try clear c9
       try clear c10
       try clear c14
       try clear c14b0
       try clear hx582_0
       try clear hx584_0
       try clear p2
       try clear p5
       try clear p582
       try clear p584
       try clear p6
       try clear q5
       try clear q582
       try clear q584
       obtain ⟨x11_3, x12_3, rfl, rfl, HA, HK3, HO_7, HO_9, HB⟩ := hrel
       cases gk with
       | zero => exact absurd HA.out (by simp [spec_l9Bases.l2])
       | succ k3 =>
        have H := HA.out
        clear HA
        simp only [spec_l9Bases.l2] at H
        by_cases c16 : x12_3 < (x7_1.length : Int)
        ·
         rw [if_pos c16] at H
         have c16b0 : decide (x12_3 < (x7_1.length : Int)) = true := decide_eq_true c16
         clear c16
         by_cases c17 : x11_3 = true
         ·
          subst c17
          have H1 : (if x10_2 = x12_3 then (spec_l9Bases.l2 k3 l0 x7_1 x9_2 x10_2 true (wrap64 (x12_3 + 1))) else (if 0 ≤ x10_2 then (if x10_2 < (x7_1.length : Int) then (if 0 ≤ x12_3 then ((spec_l9Ancestor.f k3 l0 (rdOf ByteArray.empty x7_1 x10_2) (rdOf ByteArray.empty x7_1 x12_3)).bind fun t593 => (spec_l9Bases.l2 k3 l0 x7_1 x9_2 x10_2 (!t593) (wrap64 (x12_3 + 1)))) else (none)) else (none)) else (none))) = some r := by rw [if_pos rfl] at H; exact H
          clear H
          have H := H1
          clear H1
          by_cases c18 : x10_2 = x12_3
          ·
           rw [if_pos c18] at H
           have c18b0 : (x10_2 == x12_3) = true := beq_iff_eq.mpr c18
           have c18b1 : (x10_2 != x12_3) = false := bne_eq_false_iff_eq.mpr c18
           clear c18
           have H' := zK H
           clear H
           try go_wp2
           have n0_ := zK (zW HO_7.out)
           have n1_ := zK (zW HO_9.out)
           have n2_ := zK (zD HB.out)
           clear HO_7
           clear HO_9
           clear HB
           have HO_7 := n0_
           have HO_9 := n1_
           have HB := n2_
           clear n0_ n1_ n2_
           refine start_ (n := 20) (S := fun w' => True) (ds := []) #[zF,zF,zF,zF,zF,zF,zF,zF,zF,zF,zF,zF,zF,zF,zF,zF,zF,zF,zF,zF] zq5 rfl rfl trivial (fun hHeld => ?_); refine with_tabW spec_l9Bases.tab15 spec_l9Bases.bits15 (fun HT_ HW_ => ?_)
           generalize wr.drew = w19 at HO_7 HO_9 HB hHeld ⊢
           refine pure_ (i := 0) (N := some 46) (v := ?_) (a' := ?_) #[zB,zF,zF,zF,zF,zF,zF,zF,zF,zF,zF,zF,zF,zF,zF,zF,zF,zF,zF,zF] rfl rfl (any_of HT_.out zq5) (fun _ _ _ h => h) (Or.inl ⟨by rfl, ?_⟩) ?_ ?_
           rotate_left
           ·
            intro w'
            go_simp
            with_reducible rfl
           rotate_left
           ·
            simp only [Act.put, zS, zT, zU, i64_w, i32_w]
            rfl
           refine pure_ (i := 1) (N := some 47) (v := ?_) (a' := ?_) #[zB,zB,zF,zF,zF,zF,zF,zF,zF,zF,zF,zF,zF,zF,zF,zF,zF,zF,zF,zF] rfl rfl (any_of HT_.out zq5) (fun _ _ _ h => h) (Or.inl ⟨by rfl, ?_⟩) ?_ ?_
           rotate_left
           ·
            intro w'
            go_simp
            with_reducible rfl
           rotate_left
           ·
            simp only [Act.put, zS, zT, zU, i64_w, i32_w]
            rfl
           refine pure_ (i := 2) (N := some 48) (v := ?_) (a' := ?_) #[zB,zB,zB,zF,zF,zF,zF,zF,zF,zF,zF,zF,zF,zF,zF,zF,zF,zF,zF,zF] rfl rfl (any_of HT_.out zq5) (fun _ _ _ h => h) (Or.inl ⟨by rfl, ?_⟩) ?_ ?_
           rotate_left
           ·
            intro w'
            go_simp
            with_reducible rfl
           rotate_left
           ·
            simp only [Act.put, zS, zT, zU, i64_w, i32_w]
            rfl
           refine pure_ (i := 3) (N := some 49) (v := ?_) (a' := ?_) #[zB,zB,zB,zB,zF,zF,zF,zF,zF,zF,zF,zF,zF,zF,zF,zF,zF,zF,zF,zF] rfl rfl (any_of HT_.out zq5) (fun _ _ _ h => h) (Or.inl ⟨by rfl, ?_⟩) ?_ ?_
           rotate_left
           ·
            intro w'
            go_simp
            with_reducible rfl
           rotate_left
           ·
            simp only [Act.put, zS, zT, zU, i64_w, i32_w]
            rfl
           refine pure_ (i := 4) (N := some 50) (v := ?_) (a' := ?_) #[zB,zB,zB,zB,zB,zF,zF,zF,zF,zF,zF,zF,zF,zF,zF,zF,zF,zF,zF,zF] rfl rfl (any_of HT_.out zq5) (fun _ _ _ h => h) (Or.inl ⟨by rfl, ?_⟩) ?_ ?_
           rotate_left
           ·
            intro w'
            go_simp
            with_reducible rfl
           rotate_left
           ·
            simp only [Act.put, zS, zT, zU, i64_w, i32_w]
            rfl
           refine pure_ (i := 5) (N := some 51) (v := ?_) (a' := ?_) #[zB,zB,zB,zB,zB,zB,zF,zF,zF,zF,zF,zF,zF,zF,zF,zF,zF,zF,zF,zF] rfl rfl (any_of HT_.out zq5) (fun _ _ _ h => h) (Or.inl ⟨by rfl, ?_⟩) ?_ ?_
           rotate_left
           ·
            intro w'
            go_simp
            with_reducible rfl
           rotate_left
           ·
            simp only [Act.put, zS, zT, zU, i64_w, i32_w]
            rfl
           refine pure_ (i := 6) (N := some 52) (v := undef) (a' := ?_) #[zB,zB,zB,zB,zB,zB,zB,zF,zF,zF,zF,zF,zF,zF,zF,zF,zF,zF,zF,zF] rfl rfl (any_of HT_.out zq5) (fun _ _ _ h => h) (Or.inr ⟨by rfl, rfl⟩) ?_ ?_
           rotate_left
           ·
            simp only [Act.put, zS, zT, zU, i64_w, i32_w]
            rfl
           refine pure_ (i := 7) (N := some 53) (v := undef) (a' := ?_) #[zB,zB,zB,zB,zB,zB,zB,zB,zF,zF,zF,zF,zF,zF,zF,zF,zF,zF,zF,zF] rfl rfl (any_of HT_.out zq5) (fun _ _ _ h => h) (Or.inr ⟨by rfl, rfl⟩) ?_ ?_
           rotate_left
           ·
            simp only [Act.put, zS, zT, zU, i64_w, i32_w]
            rfl
           refine pure_ (i := 8) (N := some 54) (v := undef) (a' := ?_) #[zB,zB,zB,zB,zB,zB,zB,zB,zB,zF,zF,zF,zF,zF,zF,zF,zF,zF,zF,zF] rfl rfl (any_of HT_.out zq5) (fun _ _ _ h => h) (Or.inr ⟨by rfl, rfl⟩) ?_ ?_
           rotate_left
           ·
            simp only [Act.put, zS, zT, zU, i64_w, i32_w]
            rfl
           refine pure_ (i := 9) (N := some 55) (v := undef) (a' := ?_) #[zB,zB,zB,zB,zB,zB,zB,zB,zB,zB,zF,zF,zF,zF,zF,zF,zF,zF,zF,zF] rfl rfl (any_of HT_.out zq5) (fun _ _ _ h => h) (Or.inr ⟨by rfl, rfl⟩) ?_ ?_
           rotate_left
           ·
            simp only [Act.put, zS, zT, zU, i64_w, i32_w]
            rfl
           refine pure_ (i := 10) (N := some 56) (v := undef) (a' := ?_) #[zB,zB,zB,zB,zB,zB,zB,zB,zB,zB,zB,zF,zF,zF,zF,zF,zF,zF,zF,zF] rfl rfl (any_of HT_.out zq5) (fun _ _ _ h => h) (Or.inr ⟨by rfl, rfl⟩) ?_ ?_
           rotate_left
           ·
            simp only [Act.put, zS, zT, zU, i64_w, i32_w]
            rfl
           refine pure_ (i := 11) (N := some 57) (v := undef) (a' := ?_) #[zB,zB,zB,zB,zB,zB,zB,zB,zB,zB,zB,zB,zF,zF,zF,zF,zF,zF,zF,zF] rfl rfl (any_of HT_.out zq5) (fun _ _ _ h => h) (Or.inr ⟨by rfl, rfl⟩) ?_ ?_
           rotate_left
           ·
            simp only [Act.put, zS, zT, zU, i64_w, i32_w]
            rfl
           refine pure_ (i := 12) (N := some 58) (v := undef) (a' := ?_) #[zB,zB,zB,zB,zB,zB,zB,zB,zB,zB,zB,zB,zB,zF,zF,zF,zF,zF,zF,zF] rfl rfl (any_of HT_.out zq5) (fun _ _ _ h => h) (Or.inr ⟨by rfl, rfl⟩) ?_ ?_
           rotate_left
           ·
            simp only [Act.put, zS, zT, zU, i64_w, i32_w]
            rfl
           refine pure_ (i := 13) (N := some 59) (v := undef) (a' := ?_) #[zB,zB,zB,zB,zB,zB,zB,zB,zB,zB,zB,zB,zB,zB,zF,zF,zF,zF,zF,zF] rfl rfl (any_of HT_.out zq5) (fun _ _ _ h => h) (Or.inr ⟨by rfl, rfl⟩) ?_ ?_
           rotate_left
           ·
            simp only [Act.put, zS, zT, zU, i64_w, i32_w]
            rfl
           refine pure_ (i := 14) (N := some 60) (v := undef) (a' := ?_) #[zB,zB,zB,zB,zB,zB,zB,zB,zB,zB,zB,zB,zB,zB,zB,zF,zF,zF,zF,zF] rfl rfl (any_of HT_.out zq5) (fun _ _ _ h => h) (Or.inr ⟨by rfl, rfl⟩) ?_ ?_
           rotate_left
           ·
            simp only [Act.put, zS, zT, zU, i64_w, i32_w]
            rfl
           refine pure_ (i := 15) (N := some 61) (v := undef) (a' := ?_) #[zB,zB,zB,zB,zB,zB,zB,zB,zB,zB,zB,zB,zB,zB,zB,zB,zF,zF,zF,zF] rfl rfl (any_of HT_.out zq5) (fun _ _ _ h => h) (Or.inr ⟨by rfl, rfl⟩) ?_ ?_
           rotate_left
           ·
            simp only [Act.put, zS, zT, zU, i64_w, i32_w]
            rfl
           refine pure_ (i := 16) (N := some 62) (v := undef) (a' := ?_) #[zB,zB,zB,zB,zB,zB,zB,zB,zB,zB,zB,zB,zB,zB,zB,zB,zB,zF,zF,zF] rfl rfl (any_of HT_.out zq5) (fun _ _ _ h => h) (Or.inr ⟨by rfl, rfl⟩) ?_ ?_
           rotate_left
           ·
            simp only [Act.put, zS, zT, zU, i64_w, i32_w]
            rfl
           refine pure_ (i := 17) (N := some 63) (v := ?_) (a' := ?_) #[zB,zB,zB,zB,zB,zB,zB,zB,zB,zB,zB,zB,zB,zB,zB,zB,zB,zB,zF,zF] rfl rfl (any_of HT_.out zq5) (fun _ _ _ h => h) (Or.inl ⟨by rfl, ?_⟩) ?_ ?_
           rotate_left
           ·
            intro w'
            go_simp
            with_reducible rfl
           rotate_left
           ·
            simp only [Act.put, zS, zT, zU, i64_w, i32_w]
            rfl
           refine pure_ (i := 18) (N := some 64) (v := ?_) (a' := ?_) #[zB,zB,zB,zB,zB,zB,zB,zB,zB,zB,zB,zB,zB,zB,zB,zB,zB,zB,zB,zF] rfl rfl (any_of HT_.out zq5) (fun _ _ _ h => h) (Or.inl ⟨by rfl, ?_⟩) ?_ ?_
           rotate_left
           ·
            intro w'
            go_simp
            with_reducible rfl
           rotate_left
           ·
            simp only [Act.put, zS, zT, zU, i64_w, i32_w]
            rfl
           refine pure_ (i := 19) (N := some 11) (v := ?_) (a' := ?_) #[zB,zB,zB,zB,zB,zB,zB,zB,zB,zB,zB,zB,zB,zB,zB,zB,zB,zB,zB,zB] rfl rfl (any_of HT_.out zq5) (fun _ _ _ h => h) (Or.inl ⟨by rfl, ?_⟩) ?_ ?_
           rotate_left
           ·
            intro w'
            go_simp
            with_reducible rfl
           rotate_left
           ·
            simp only [Act.put, zS, zT, zU, i64_w, i32_w]
            rfl
           refine done_ (done_of HT_.out zq5) ?_
           try go_wp2
           go_roundg k3
           case measure => have := HK1.out; have := HK2.out; have := HK3.out; omega
           case rel => exact ⟨(true), (wrap64 (x12_3 + 1)), zq4, zq4, H', ⟨by have := HK1.out; have := HK2.out; have := HK3.out; omega⟩, ⟨by (with_reducible repeat (first | apply zR | apply zV | apply zW)); exact HO_7.out⟩, ⟨by (with_reducible repeat (first | apply zR | apply zV | apply zW)); exact HO_9.out⟩, ⟨by repeat (first | (with_reducible first | exact HB.out | apply zA | apply zN | apply zD) | exact HB.out)⟩⟩
          rw [if_neg c18] at H
          have c18b0 : (x10_2 == x12_3) = false := beq_eq_false_iff_ne.mpr c18
          have c18b1 : (x10_2 != x12_3) = true := bne_iff_ne.mpr c18
          by_cases c20 : 0 ≤ x10_2
          ·
           rw [if_pos c20] at H
           have c20b0 : decide (0 ≤ x10_2) = true := decide_eq_true c20
           clear c20
           by_cases c21 : x10_2 < (x7_1.length : Int)
           ·
            rw [if_pos c21] at H
            have c21b0 : decide (x10_2 < (x7_1.length : Int)) = true := decide_eq_true c21
            clear c21
            by_cases c22 : 0 ≤ x12_3
            ·
             rw [if_pos c22] at H
             have c22b0 : decide (0 ≤ x12_3) = true := decide_eq_true c22
             clear c22
             replace H := Option.bind_eq_some_iff.mp H
             obtain ⟨t593, A230, H⟩ := H
             replace H : (spec_l9Bases.l2 k3 l0 x7_1 x9_2 x10_2 (!t593) (wrap64 (x12_3 + 1))) = some r := H
             have A23 := zK A230
             clear A230
             have H' := zK H
             clear H
             try go_wp2
             have n0_ := zK (zW HO_7.out)
             have n1_ := zK (zW HO_9.out)
             have n2_ := zK (zD HB.out)
             clear HO_7
             clear HO_9
             clear HB
             have HO_7 := n0_
             have HO_9 := n1_
             have HB := n2_
             clear n0_ n1_ n2_
             have p591 : 0 ≤ (x10_2 : Int) := zX zq2
             have q591 : x10_2 < (x7_1.length : Int) := zX zq2
             obtain ⟨ad591, e591, hx591_0⟩ := Kd.at_string (Kd.R_reads' HO_7.out).2.2 x10_2 p591 q591
             cases e591
             replace p591 := eq_true p591
             replace q591 := eq_true q591
             have p592 : 0 ≤ (x12_3 : Int) := zX zq2
             have q592 : x12_3 < (x7_1.length : Int) := zX zq2
             obtain ⟨ad592, e592, hx592_0⟩ := Kd.at_string (Kd.R_reads' HO_7.out).2.2 x12_3 p592 q592
             obtain rfl : ad591 = ad592 := (by injection e592)
             replace p592 := eq_true p592
             replace q592 := eq_true q592
             refine start_ (n := 20) (S := fun w' => w'.cell? (ad591.add (x10_2).toNat) = some (.string (rdOf ByteArray.empty x7_1 x10_2)) ∧ w'.cell? (ad591.add (x12_3).toNat) = some (.string (rdOf ByteArray.empty x7_1 x12_3))) (ds := []) #[zF,zF,zF,zF,zF,zF,zF,zF,zF,zF,zF,zF,zF,zF,zF,zF,zF,zF,zF,zF] zq5 rfl rfl ⟨hx591_0, hx592_0⟩ (fun hHeld => ?_); refine with_tabW spec_l9Bases.tab15 spec_l9Bases.bits15 (fun HT_ HW_ => ?_)
             generalize wr.drew = w24 at HO_7 HO_9 HB hx591_0 hx592_0 hHeld ⊢
             refine pure_ (i := 0) (N := some 46) (v := ?_) (a' := ?_) #[zB,zF,zF,zF,zF,zF,zF,zF,zF,zF,zF,zF,zF,zF,zF,zF,zF,zF,zF,zF] rfl rfl (any_of HT_.out zq5) (fun _ _ _ h => h) (Or.inl ⟨by rfl, ?_⟩) ?_ ?_
             rotate_left
             ·
              intro w'
              go_simp
              with_reducible rfl
             rotate_left
             ·
              simp only [Act.put, zS, zT, zU, i64_w, i32_w]
              rfl
             refine pure_ (i := 1) (N := some 47) (v := ?_) (a' := ?_) #[zB,zB,zF,zF,zF,zF,zF,zF,zF,zF,zF,zF,zF,zF,zF,zF,zF,zF,zF,zF] rfl rfl (any_of HT_.out zq5) (fun _ _ _ h => h) (Or.inl ⟨by rfl, ?_⟩) ?_ ?_
             rotate_left
             ·
              intro w'
              go_simp
              with_reducible rfl
             rotate_left
             ·
              simp only [Act.put, zS, zT, zU, i64_w, i32_w]
              rfl
             refine pure_ (i := 2) (N := some 48) (v := ?_) (a' := ?_) #[zB,zB,zB,zF,zF,zF,zF,zF,zF,zF,zF,zF,zF,zF,zF,zF,zF,zF,zF,zF] rfl rfl (any_of HT_.out zq5) (fun _ _ _ h => h) (Or.inl ⟨by rfl, ?_⟩) ?_ ?_
             rotate_left
             ·
              intro w'
              go_simp
              with_reducible rfl
             rotate_left
             ·
              simp only [Act.put, zS, zT, zU, i64_w, i32_w]
              rfl
             refine pure_ (i := 3) (N := some 49) (v := ?_) (a' := ?_) #[zB,zB,zB,zB,zF,zF,zF,zF,zF,zF,zF,zF,zF,zF,zF,zF,zF,zF,zF,zF] rfl rfl (any_of HT_.out zq5) (fun _ _ _ h => h) (Or.inl ⟨by rfl, ?_⟩) ?_ ?_
             rotate_left
             ·
              intro w'
              go_simp
              with_reducible rfl
             rotate_left
             ·
              simp only [Act.put, zS, zT, zU, i64_w, i32_w]
              rfl
             refine pure_ (i := 4) (N := some 50) (v := ?_) (a' := ?_) #[zB,zB,zB,zB,zB,zF,zF,zF,zF,zF,zF,zF,zF,zF,zF,zF,zF,zF,zF,zF] rfl rfl (any_of HT_.out zq5) (fun _ _ _ h => h) (Or.inl ⟨by rfl, ?_⟩) ?_ ?_
             rotate_left
             ·
              intro w'
              go_simp
              with_reducible rfl
             rotate_left
             ·
              simp only [Act.put, zS, zT, zU, i64_w, i32_w]
              rfl
             refine pure_ (i := 5) (N := some 51) (v := ?_) (a' := ?_) #[zB,zB,zB,zB,zB,zB,zF,zF,zF,zF,zF,zF,zF,zF,zF,zF,zF,zF,zF,zF] rfl rfl (any_of HT_.out zq5) (fun _ _ _ h => h) (Or.inl ⟨by rfl, ?_⟩) ?_ ?_
             rotate_left
             ·
              intro w'
              go_simp
              with_reducible rfl
             rotate_left
             ·
              simp only [Act.put, zS, zT, zU, i64_w, i32_w]
              rfl
             refine pure_ (i := 6) (N := some 52) (v := ?_) (a' := ?_) #[zB,zB,zB,zB,zB,zB,zB,zF,zF,zF,zF,zF,zF,zF,zF,zF,zF,zF,zF,zF] rfl rfl (any_of HT_.out zq5) (fun _ _ _ h => h) (Or.inl ⟨by rfl, ?_⟩) ?_ ?_
             rotate_left
             ·
              intro w'
              go_simp
              with_reducible rfl
             rotate_left
             ·
              simp only [Act.put, zS, zT, zU, i64_w, i32_w]
              rfl
             refine pure_ (i := 7) (N := some 53) (v := ?_) (a' := ?_) #[zB,zB,zB,zB,zB,zB,zB,zB,zF,zF,zF,zF,zF,zF,zF,zF,zF,zF,zF,zF] rfl rfl (any_of HT_.out zq5) (fun _ _ _ h => h) (Or.inl ⟨by rfl, ?_⟩) ?_ ?_
             rotate_left
             ·
              intro w'
              go_simp
              with_reducible rfl
             rotate_left
             ·
              simp only [Act.put, zS, zT, zU, i64_w, i32_w]
              rfl
             refine pure_ (i := 8) (N := some 54) (v := ?_) (a' := ?_) #[zB,zB,zB,zB,zB,zB,zB,zB,zB,zF,zF,zF,zF,zF,zF,zF,zF,zF,zF,zF] rfl rfl (any_of HT_.out zq5) (fun _ _ _ h => h) (Or.inl ⟨by rfl, ?_⟩) ?_ ?_
             rotate_left
             ·
              intro w'
              go_simp
              with_reducible rfl
             rotate_left
             ·
              simp only [Act.put, zS, zT, zU, i64_w, i32_w]
              rfl
             refine pure_ (i := 9) (N := some 55) (v := ?_) (a' := ?_) #[zB,zB,zB,zB,zB,zB,zB,zB,zB,zB,zF,zF,zF,zF,zF,zF,zF,zF,zF,zF] rfl rfl (any_of HT_.out zq5) (fun _ _ _ h => h) (Or.inl ⟨by rfl, ?_⟩) ?_ ?_
             rotate_left
             ·
              intro w'
              go_simp
              with_reducible rfl
             rotate_left
             ·
              simp only [Act.put, zS, zT, zU, i64_w, i32_w]
              rfl
             refine pure_ (i := 11) (N := some 57) (v := ?_) (a' := ?_) #[zB,zB,zB,zB,zB,zB,zB,zB,zB,zB,zF,zB,zF,zF,zF,zF,zF,zF,zF,zF] rfl rfl (any_of HT_.out zq5) (fun _ _ _ h => h) (Or.inl ⟨by rfl, ?_⟩) ?_ ?_
             rotate_left
             ·
              intro w'
              go_simp
              with_reducible rfl
             rotate_left
             ·
              simp only [Act.put, zS, zT, zU, i64_w, i32_w]
              rfl
             refine pure_ (i := 12) (N := some 58) (v := ?_) (a' := ?_) #[zB,zB,zB,zB,zB,zB,zB,zB,zB,zB,zF,zB,zB,zF,zF,zF,zF,zF,zF,zF] rfl rfl (any_of HT_.out zq5) (fun _ _ _ h => h) (Or.inl ⟨by rfl, ?_⟩) ?_ ?_
             rotate_left
             ·
              intro w'
              go_simp
              with_reducible rfl
             rotate_left
             ·
              simp only [Act.put, zS, zT, zU, i64_w, i32_w]
              rfl
             refine pure_ (i := 13) (N := some 59) (v := ?_) (a' := ?_) #[zB,zB,zB,zB,zB,zB,zB,zB,zB,zB,zF,zB,zB,zB,zF,zF,zF,zF,zF,zF] rfl rfl (any_of HT_.out zq5) (fun _ _ _ h => h) (Or.inl ⟨by rfl, ?_⟩) ?_ ?_
             rotate_left
             ·
              intro w'
              go_simp
              with_reducible rfl
             rotate_left
             ·
              simp only [Act.put, zS, zT, zU, i64_w, i32_w]
              rfl
             refine take_ (i := 10) (N := some 56) (v := ?_) (a' := ?_) #[zB,zB,zB,zB,zB,zB,zB,zB,zB,zB,zB,zB,zB,zB,zF,zF,zF,zF,zF,zF] rfl rfl (take_ofW HT_.out HW_.out zq5) (fun _ _ _ h => h) (Or.inl ⟨by rfl, ?_⟩) hHeld ?_ ?_
             rotate_left
             ·
              rintro w' ⟨s0, s1⟩
              go_simp
              with_reducible rfl
             rotate_left
             ·
              simp only [Act.put, zS, zT, zU, i64_w, i32_w]
              rfl
             refine take_ (i := 14) (N := some 60) (v := ?_) (a' := ?_) #[zB,zB,zB,zB,zB,zB,zB,zB,zB,zB,zB,zB,zB,zB,zB,zF,zF,zF,zF,zF] rfl rfl (take_ofW HT_.out HW_.out zq5) (fun _ _ _ h => h) (Or.inl ⟨by rfl, ?_⟩) hHeld ?_ ?_
             rotate_left
             ·
              rintro w' ⟨s0, s1⟩
              go_simp
              with_reducible rfl
             rotate_left
             ·
              simp only [Act.put, zS, zT, zU, i64_w, i32_w]
              rfl
             refine one_ (i := 15) (N := some 61) #[zB,zB,zB,zB,zB,zB,zB,zB,zB,zB,zB,zB,zB,zB,zB,zB,zF,zF,zF,zF] rfl rfl (one_of HT_.out zq5) zq10 (fun K hK => ?_)
             refine goes_ Tryz.func29 zq5 rfl #[.slice A0 l0.length c0, .string (rdOf ByteArray.empty x7_1 x10_2), .string (rdOf ByteArray.empty x7_1 x12_3)] zq33 rfl rfl zq1 ?_
             with_reducible refine (spec_l9Ancestor.calls k3 _ _ l0 (rdOf ByteArray.empty x7_1 x10_2) (rdOf ByteArray.empty x7_1 x12_3) t593 _ ?side1 ?side2 A23.out).mono ?_
             (case side1 => repeat (first | exact (Kd.C_below HR0.out HB.out) | (with_reducible refine Kd.C_alloc ?_ _) | (with_reducible refine Kd.C_drewN ?_ _) | (with_reducible refine Kd.C_drew ?_)))
             (case side2 => exact HC0.out)
             rintro e w25 ⟨rfl, hb⟩
             have HS0_ := (hb.cell (zL _ _ (hHeld.1))).trans (hHeld.1)
             have HS1_ := (hb.cell (zL _ _ (hHeld.2))).trans (hHeld.2)
             refine ⟨_, rfl, ?_⟩
             have n0_ := zK (Kd.R_below zq25 hb)
             have n1_ := zK (Kd.R_below (by (with_reducible repeat (first | apply zR | apply zV | apply zW)); exact HO_9.out) hb)
             have n2_ := zK (below_step zq0 hb)
             clear HO_7
             clear HO_9
             clear HB
             have HO_7 := n0_
             have HO_9 := n1_
             have HB := n2_
             clear n0_ n1_ n2_
             (try clear hb)
             (try clear hb2)
             (try clear hk)
             (try clear hi)
             refine hK.out _ _ ⟨HS0_, HS1_⟩ (fun hHeld => ?_)
             clear hK K
             refine norm_ (a' := ?_) ?_ ?_
             rotate_left
             ·
              show Act.put _ (some 61) _ = _
              simp only [Act.put, zS, zT, zU, i64_w, i32_w]
              rfl
             refine pure_ (i := 16) (N := some 62) (v := ?_) (a' := ?_) #[zB,zB,zB,zB,zB,zB,zB,zB,zB,zB,zB,zB,zB,zB,zB,zB,zB,zF,zF,zF] rfl rfl (any_of HT_.out zq5) (fun _ _ _ h => h) (Or.inl ⟨by rfl, ?_⟩) ?_ ?_
             rotate_left
             ·
              intro w'
              go_simp
              with_reducible rfl
             rotate_left
             ·
              simp only [Act.put, zS, zT, zU, i64_w, i32_w]
              rfl
             refine pure_ (i := 17) (N := some 63) (v := ?_) (a' := ?_) #[zB,zB,zB,zB,zB,zB,zB,zB,zB,zB,zB,zB,zB,zB,zB,zB,zB,zB,zF,zF] rfl rfl (any_of HT_.out zq5) (fun _ _ _ h => h) (Or.inl ⟨by rfl, ?_⟩) ?_ ?_
             rotate_left
             ·
              intro w'
              go_simp
              with_reducible rfl
             rotate_left
             ·
              simp only [Act.put, zS, zT, zU, i64_w, i32_w]
              rfl
             refine pure_ (i := 18) (N := some 64) (v := ?_) (a' := ?_) #[zB,zB,zB,zB,zB,zB,zB,zB,zB,zB,zB,zB,zB,zB,zB,zB,zB,zB,zB,zF] rfl rfl (any_of HT_.out zq5) (fun _ _ _ h => h) (Or.inl ⟨by rfl, ?_⟩) ?_ ?_
             rotate_left
             ·
              intro w'
              go_simp
              with_reducible rfl
             rotate_left
             ·
              simp only [Act.put, zS, zT, zU, i64_w, i32_w]
              rfl
             refine pure_ (i := 19) (N := some 11) (v := ?_) (a' := ?_) #[zB,zB,zB,zB,zB,zB,zB,zB,zB,zB,zB,zB,zB,zB,zB,zB,zB,zB,zB,zB] rfl rfl (any_of HT_.out zq5) (fun _ _ _ h => h) (Or.inl ⟨by rfl, ?_⟩) ?_ ?_
             rotate_left
             ·
              intro w'
              go_simp
              with_reducible rfl
             rotate_left
             ·
              simp only [Act.put, zS, zT, zU, i64_w, i32_w]
              rfl
             refine done_ (done_of HT_.out zq5) ?_
             try go_wp2
             go_roundg k3
             case measure => have := HK1.out; have := HK2.out; have := HK3.out; omega
             case rel => exact ⟨(!t593), (wrap64 (x12_3 + 1)), zq4, zq4, H', ⟨by have := HK1.out; have := HK2.out; have := HK3.out; omega⟩, ⟨by (with_reducible repeat (first | apply zR | apply zV | apply zW)); exact HO_7.out⟩, ⟨by (with_reducible repeat (first | apply zR | apply zV | apply zW)); exact HO_9.out⟩, ⟨by repeat (first | (with_reducible first | exact HB.out | apply zA | apply zN | apply zD) | exact HB.out)⟩⟩
            rw [if_neg c22] at H
            exact absurd H zq13
           rw [if_neg c21] at H
           exact absurd H zq13
          rw [if_neg c20] at H
          exact absurd H zq13
         replace c17 := Bool.eq_false_iff.mpr c17
         subst c17
         have H1 : (spec_l9Bases.l2 k3 l0 x7_1 x9_2 x10_2 false (wrap64 (x12_3 + 1))) = some r := by rw [if_neg (show ¬ (false = true) by decide)] at H; exact H
         clear H
         have H := H1
         clear H1
         have H' := zK H
         clear H
         try go_wp2
         have n0_ := zK (zW HO_7.out)
         have n1_ := zK (zW HO_9.out)
         have n2_ := zK (zD HB.out)
         clear HO_7
         clear HO_9
         clear HB
         have HO_7 := n0_
         have HO_9 := n1_
         have HB := n2_
         clear n0_ n1_ n2_
         refine start_ (n := 20) (S := fun w' => True) (ds := []) #[zF,zF,zF,zF,zF,zF,zF,zF,zF,zF,zF,zF,zF,zF,zF,zF,zF,zF,zF,zF] zq5 rfl rfl trivial (fun hHeld => ?_); refine with_tabW spec_l9Bases.tab15 spec_l9Bases.bits15 (fun HT_ HW_ => ?_)
         generalize wr.drew = w26 at HO_7 HO_9 HB hHeld ⊢
         refine pure_ (i := 0) (N := some 46) (v := ?_) (a' := ?_) #[zB,zF,zF,zF,zF,zF,zF,zF,zF,zF,zF,zF,zF,zF,zF,zF,zF,zF,zF,zF] rfl rfl (any_of HT_.out zq5) (fun _ _ _ h => h) (Or.inl ⟨by rfl, ?_⟩) ?_ ?_
         rotate_left
         ·
          intro w'
          go_simp
          with_reducible rfl
         rotate_left
         ·
          simp only [Act.put, zS, zT, zU, i64_w, i32_w]
          rfl
         refine pure_ (i := 1) (N := some 47) (v := ?_) (a' := ?_) #[zB,zB,zF,zF,zF,zF,zF,zF,zF,zF,zF,zF,zF,zF,zF,zF,zF,zF,zF,zF] rfl rfl (any_of HT_.out zq5) (fun _ _ _ h => h) (Or.inl ⟨by rfl, ?_⟩) ?_ ?_
         rotate_left
         ·
          intro w'
          go_simp
          with_reducible rfl
         rotate_left
         ·
          simp only [Act.put, zS, zT, zU, i64_w, i32_w]
          rfl
         refine pure_ (i := 2) (N := some 48) (v := undef) (a' := ?_) #[zB,zB,zB,zF,zF,zF,zF,zF,zF,zF,zF,zF,zF,zF,zF,zF,zF,zF,zF,zF] rfl rfl (any_of HT_.out zq5) (fun _ _ _ h => h) (Or.inr ⟨by rfl, rfl⟩) ?_ ?_
         rotate_left
         ·
          simp only [Act.put, zS, zT, zU, i64_w, i32_w]
          rfl
         refine pure_ (i := 3) (N := some 49) (v := undef) (a' := ?_) #[zB,zB,zB,zB,zF,zF,zF,zF,zF,zF,zF,zF,zF,zF,zF,zF,zF,zF,zF,zF] rfl rfl (any_of HT_.out zq5) (fun _ _ _ h => h) (Or.inr ⟨by rfl, rfl⟩) ?_ ?_
         rotate_left
         ·
          simp only [Act.put, zS, zT, zU, i64_w, i32_w]
          rfl
         refine pure_ (i := 4) (N := some 50) (v := undef) (a' := ?_) #[zB,zB,zB,zB,zB,zF,zF,zF,zF,zF,zF,zF,zF,zF,zF,zF,zF,zF,zF,zF] rfl rfl (any_of HT_.out zq5) (fun _ _ _ h => h) (Or.inr ⟨by rfl, rfl⟩) ?_ ?_
         rotate_left
         ·
          simp only [Act.put, zS, zT, zU, i64_w, i32_w]
          rfl
         refine pure_ (i := 5) (N := some 51) (v := undef) (a' := ?_) #[zB,zB,zB,zB,zB,zB,zF,zF,zF,zF,zF,zF,zF,zF,zF,zF,zF,zF,zF,zF] rfl rfl (any_of HT_.out zq5) (fun _ _ _ h => h) (Or.inr ⟨by rfl, rfl⟩) ?_ ?_
         rotate_left
         ·
          simp only [Act.put, zS, zT, zU, i64_w, i32_w]
          rfl
         refine pure_ (i := 6) (N := some 52) (v := undef) (a' := ?_) #[zB,zB,zB,zB,zB,zB,zB,zF,zF,zF,zF,zF,zF,zF,zF,zF,zF,zF,zF,zF] rfl rfl (any_of HT_.out zq5) (fun _ _ _ h => h) (Or.inr ⟨by rfl, rfl⟩) ?_ ?_
         rotate_left
         ·
          simp only [Act.put, zS, zT, zU, i64_w, i32_w]
          rfl
         refine pure_ (i := 7) (N := some 53) (v := undef) (a' := ?_) #[zB,zB,zB,zB,zB,zB,zB,zB,zF,zF,zF,zF,zF,zF,zF,zF,zF,zF,zF,zF] rfl rfl (any_of HT_.out zq5) (fun _ _ _ h => h) (Or.inr ⟨by rfl, rfl⟩) ?_ ?_
         rotate_left
         ·
          simp only [Act.put, zS, zT, zU, i64_w, i32_w]
          rfl
         refine pure_ (i := 8) (N := some 54) (v := undef) (a' := ?_) #[zB,zB,zB,zB,zB,zB,zB,zB,zB,zF,zF,zF,zF,zF,zF,zF,zF,zF,zF,zF] rfl rfl (any_of HT_.out zq5) (fun _ _ _ h => h) (Or.inr ⟨by rfl, rfl⟩) ?_ ?_
         rotate_left
         ·
          simp only [Act.put, zS, zT, zU, i64_w, i32_w]
          rfl
         refine pure_ (i := 9) (N := some 55) (v := undef) (a' := ?_) #[zB,zB,zB,zB,zB,zB,zB,zB,zB,zB,zF,zF,zF,zF,zF,zF,zF,zF,zF,zF] rfl rfl (any_of HT_.out zq5) (fun _ _ _ h => h) (Or.inr ⟨by rfl, rfl⟩) ?_ ?_
         rotate_left
         ·
          simp only [Act.put, zS, zT, zU, i64_w, i32_w]
          rfl
         refine pure_ (i := 10) (N := some 56) (v := undef) (a' := ?_) #[zB,zB,zB,zB,zB,zB,zB,zB,zB,zB,zB,zF,zF,zF,zF,zF,zF,zF,zF,zF] rfl rfl (any_of HT_.out zq5) (fun _ _ _ h => h) (Or.inr ⟨by rfl, rfl⟩) ?_ ?_
         rotate_left
         ·
          simp only [Act.put, zS, zT, zU, i64_w, i32_w]
          rfl
         refine pure_ (i := 11) (N := some 57) (v := undef) (a' := ?_) #[zB,zB,zB,zB,zB,zB,zB,zB,zB,zB,zB,zB,zF,zF,zF,zF,zF,zF,zF,zF] rfl rfl (any_of HT_.out zq5) (fun _ _ _ h => h) (Or.inr ⟨by rfl, rfl⟩) ?_ ?_
         rotate_left
         ·
          simp only [Act.put, zS, zT, zU, i64_w, i32_w]
          rfl
         refine pure_ (i := 12) (N := some 58) (v := undef) (a' := ?_) #[zB,zB,zB,zB,zB,zB,zB,zB,zB,zB,zB,zB,zB,zF,zF,zF,zF,zF,zF,zF] rfl rfl (any_of HT_.out zq5) (fun _ _ _ h => h) (Or.inr ⟨by rfl, rfl⟩) ?_ ?_
         rotate_left
         ·
          simp only [Act.put, zS, zT, zU, i64_w, i32_w]
          rfl
         refine pure_ (i := 13) (N := some 59) (v := undef) (a' := ?_) #[zB,zB,zB,zB,zB,zB,zB,zB,zB,zB,zB,zB,zB,zB,zF,zF,zF,zF,zF,zF] rfl rfl (any_of HT_.out zq5) (fun _ _ _ h => h) (Or.inr ⟨by rfl, rfl⟩) ?_ ?_
         rotate_left
         ·
          simp only [Act.put, zS, zT, zU, i64_w, i32_w]
          rfl
         refine pure_ (i := 14) (N := some 60) (v := undef) (a' := ?_) #[zB,zB,zB,zB,zB,zB,zB,zB,zB,zB,zB,zB,zB,zB,zB,zF,zF,zF,zF,zF] rfl rfl (any_of HT_.out zq5) (fun _ _ _ h => h) (Or.inr ⟨by rfl, rfl⟩) ?_ ?_
         rotate_left
         ·
          simp only [Act.put, zS, zT, zU, i64_w, i32_w]
          rfl
         refine pure_ (i := 15) (N := some 61) (v := undef) (a' := ?_) #[zB,zB,zB,zB,zB,zB,zB,zB,zB,zB,zB,zB,zB,zB,zB,zB,zF,zF,zF,zF] rfl rfl (any_of HT_.out zq5) (fun _ _ _ h => h) (Or.inr ⟨by rfl, rfl⟩) ?_ ?_
         rotate_left
         ·
          simp only [Act.put, zS, zT, zU, i64_w, i32_w]
          rfl
         refine pure_ (i := 16) (N := some 62) (v := undef) (a' := ?_) #[zB,zB,zB,zB,zB,zB,zB,zB,zB,zB,zB,zB,zB,zB,zB,zB,zB,zF,zF,zF] rfl rfl (any_of HT_.out zq5) (fun _ _ _ h => h) (Or.inr ⟨by rfl, rfl⟩) ?_ ?_
         rotate_left
         ·
          simp only [Act.put, zS, zT, zU, i64_w, i32_w]
          rfl
         refine pure_ (i := 17) (N := some 63) (v := undef) (a' := ?_) #[zB,zB,zB,zB,zB,zB,zB,zB,zB,zB,zB,zB,zB,zB,zB,zB,zB,zB,zF,zF] rfl rfl (any_of HT_.out zq5) (fun _ _ _ h => h) (Or.inr ⟨by rfl, rfl⟩) ?_ ?_
         rotate_left
         ·
          simp only [Act.put, zS, zT, zU, i64_w, i32_w]
          rfl
         refine pure_ (i := 18) (N := some 64) (v := ?_) (a' := ?_) #[zB,zB,zB,zB,zB,zB,zB,zB,zB,zB,zB,zB,zB,zB,zB,zB,zB,zB,zB,zF] rfl rfl (any_of HT_.out zq5) (fun _ _ _ h => h) (Or.inl ⟨by rfl, ?_⟩) ?_ ?_
         rotate_left
         ·
          intro w'
          go_simp
          with_reducible rfl
         rotate_left
         ·
          simp only [Act.put, zS, zT, zU, i64_w, i32_w]
          rfl
         refine pure_ (i := 19) (N := some 11) (v := ?_) (a' := ?_) #[zB,zB,zB,zB,zB,zB,zB,zB,zB,zB,zB,zB,zB,zB,zB,zB,zB,zB,zB,zB] rfl rfl (any_of HT_.out zq5) (fun _ _ _ h => h) (Or.inl ⟨by rfl, ?_⟩) ?_ ?_
         rotate_left
         ·
          intro w'
          go_simp
          with_reducible rfl
         rotate_left
         ·
          simp only [Act.put, zS, zT, zU, i64_w, i32_w]
          rfl
         refine done_ (done_of HT_.out zq5) ?_
         try go_wp2
         go_roundg k3
         case measure => have := HK1.out; have := HK2.out; have := HK3.out; omega
         case rel => exact ⟨(false), (wrap64 (x12_3 + 1)), zq4, zq4, H', ⟨by have := HK1.out; have := HK2.out; have := HK3.out; omega⟩, ⟨by (with_reducible repeat (first | apply zR | apply zV | apply zW)); exact HO_7.out⟩, ⟨by (with_reducible repeat (first | apply zR | apply zV | apply zW)); exact HO_9.out⟩, ⟨by repeat (first | (with_reducible first | exact HB.out | apply zA | apply zN | apply zD) | exact HB.out)⟩⟩
        rw [if_neg c16] at H
        have c16b0 : decide (x12_3 < (x7_1.length : Int)) = false := decide_eq_false c16
        clear c16
        by_cases c27 : x11_3 = true
        ·
         subst c27
         have H1 : (if 0 ≤ x10_2 then (if x10_2 < (x7_1.length : Int) then (if x9_2.length < 8796093022208 then (spec_l9Bases.l1 k3 l0 x7_1 (x9_2 ++ [rdOf ByteArray.empty x7_1 x10_2]) (wrap64 (x10_2 + 1))) else (none)) else (none)) else (none)) = some r := by rw [if_pos rfl] at H; exact H
         clear H
         have H := H1
         clear H1
         by_cases c28 : 0 ≤ x10_2
         ·
          rw [if_pos c28] at H
          have c28b0 : decide (0 ≤ x10_2) = true := decide_eq_true c28
          clear c28
          by_cases c29 : x10_2 < (x7_1.length : Int)
          ·
           rw [if_pos c29] at H
           have c29b0 : decide (x10_2 < (x7_1.length : Int)) = true := decide_eq_true c29
           clear c29
           by_cases c30 : x9_2.length < 8796093022208
           ·
            rw [if_pos c30] at H
            have LMc30 := zK c30
            clear c30
            obtain ⟨y595, hy595⟩ : ∃ y_ : List ByteArray, y_ = (x9_2 ++ [rdOf ByteArray.empty x7_1 x10_2]) := ⟨_, rfl⟩
            replace H : (spec_l9Bases.l1 k3 l0 x7_1 y595 (wrap64 (x10_2 + 1))) = some r := by first | (rw [hy595]; with_reducible exact H) | (have H2_ := (Option.bind_some _ _).symm.trans H; rw [hy595]; with_reducible exact H2_) | (have H2_ := (Option.bind_some _ _).symm.trans H; with_reducible exact H2_) | with_reducible exact H | (rw [hy595]; exact H) | exact H
            have Ny595 := zK hy595
            clear hy595
            have H' := zK H
            clear H
            have p594 : 0 ≤ (x10_2 : Int) := zX zq2
            have q594 : x10_2 < (x7_1.length : Int) := zX zq2
            obtain ⟨ad594, e594, hx594_0⟩ := Kd.at_string (Kd.R_reads' HO_7.out).2.2 x10_2 p594 q594
            cases e594
            replace p594 := eq_true p594
            replace q594 := eq_true q594
            go_wp2_with (first | ((with_reducible refine gate_builtin (b := .append) (xs := #[.tmp 66, .tmp 71]) rfl ?_); at_builtin; refine Kd.R_append Kd.string (w0 := w) w.heap.size rfl (.tmp 66) (.tmp 71) 29 9 (.string ⟨#[]⟩) 16 rfl Tryz.underlying29 info9 rfl zq10 zq6 u9 x9_2 (rdOf ByteArray.empty x7_1 x10_2) [.string (rdOf ByteArray.empty x7_1 x10_2)] (fun k_ => some k_ ≠ (.slice (some ad594) x7_1.length co15 : Value).ownBlock) (fun _ => False) rfl rfl ?aP (fun _ hk => hk.elim) ?aF ?aO ?aB ?aS ?aL ?_; (case aP => exact rfl); (case aB => exact zq0); (case aF => exact (fun k_ hk => Kd.fresh' (Kd.R_lt zq25) k_ hk)); (case aO => exact (by (with_reducible repeat (first | apply zR | apply zV | apply zW)); exact HO_9.out)); (case aS => exact (below_size zq0)); (case aL => have := LMc30.out; omega); intro v596 w31 ho hb hg hat; rw [← Ny595.out] at ho; have n0_ := zK (Kd.R_after (ok := (fun _ => True)) (by (with_reducible repeat (first | apply zR | apply zV | apply zW)); exact Kd.R_mono HO_7.out (fun _ hk => ⟨trivial, hk⟩)) hg hat); have n1_ := zK (hb); have n2_ := zK (ho); clear HO_7; clear HB; clear HO_9; have HO_7 := n0_; have HB := n1_; have HO597 := n2_; clear n0_ n1_ n2_; clear ho hb hg hat))
            go_roundg k3
            case measure => have := HK1.out; have := HK2.out; have := HK3.out; omega
            case rel => exact ⟨(y595), (wrap64 (x10_2 + 1)), zq4, H', ⟨by have := HK1.out; have := HK2.out; have := HK3.out; omega⟩, ⟨by (with_reducible repeat (first | apply zR | apply zV | apply zW)); exact Kd.R_mono HO_7.out (fun _ hk => hk.2)⟩, ⟨by (with_reducible repeat (first | apply zR | apply zV | apply zW)); exact HO597.out⟩, ⟨by repeat (first | (with_reducible first | exact HB.out | apply zA | apply zN | apply zD) | exact HB.out)⟩⟩
           rw [if_neg c30] at H
           exact absurd H zq13
          rw [if_neg c29] at H
          exact absurd H zq13
         rw [if_neg c28] at H
         exact absurd H zq13
        replace c27 := Bool.eq_false_iff.mpr c27
        subst c27
        have H1 : (spec_l9Bases.l1 k3 l0 x7_1 x9_2 (wrap64 (x10_2 + 1))) = some r := by rw [if_neg (show ¬ (false = true) by decide)] at H; exact H
        clear H
        have H := H1
        clear H1
        have H' := zK H
        clear H
        go_wp2
        go_roundg k3
        case measure => have := HK1.out; have := HK2.out; have := HK3.out; omega
        case rel => exact ⟨(x9_2), (wrap64 (x10_2 + 1)), zq4, H', ⟨by have := HK1.out; have := HK2.out; have := HK3.out; omega⟩, ⟨by (with_reducible repeat (first | apply zR | apply zV | apply zW)); exact HO_7.out⟩, ⟨by (with_reducible repeat (first | apply zR | apply zV | apply zW)); exact HO_9.out⟩, ⟨by repeat (first | (with_reducible first | exact HB.out | apply zA | apply zN | apply zD) | exact HB.out)⟩⟩
     rw [if_neg c14] at H
     have c14b0 : decide (x10_2 < (x7_1.length : Int)) = false := decide_eq_false c14
     clear c14
     obtain rfl := Option.some.inj H
     obtain ⟨Ao32, co32, eo32⟩ := Kd.R_slice HO_7.out
     subst eo32
     go_wp2
     go_ret
     exact ⟨_, zq3, (by (with_reducible repeat (first | apply zR | apply zV | apply zW)); exact Kd.R_mono HO_9.out (fun _ hk => trivial)), zq0⟩
def spec_BasesOf.f (k : Nat) (l0 : List (S50)) (a1 : ByteArray) (a2 : ByteArray) : Option (Int × List ByteArray) := (spec_StoreFault.f k l0).bind fun t599 => (if t599 = 0 then ((spec_l9Both.f k l0 a1 a2).bind fun bt600 => (if bt600.2.2 = 0 then ((spec_l9Bases.f k l0 bt600.1 bt600.2.1).bind fun t607 => (some (0, t607))) else (some (bt600.2.2, ([] : List ByteArray))))) else (some (t599, ([] : List ByteArray))))
set_option maxHeartbeats 8000000 in
set_option maxRecDepth 100000 in
theorem spec_BasesOf.calls (k : Nat) (A0 : Option Addr) (c0 : Nat) (l0 : List (S50)) (a1 : ByteArray) (a2 : ByteArray) (r1 : Int) (r2 : List ByteArray) (w : World) (hr0 : Kd.C k50 w A0 l0.length l0) (hc0 : l0.length ≤ c0) (h : spec_BasesOf.f k l0 a1 a2 = some (r1, r2)) :
  Calls Tryz.prog 22 #[.slice A0 l0.length c0, .string a1, .string a2] w fun e w' => ∃ v1_ : Value, e = .returned (.agg #[.int .i64 r1, v1_]) ∧ Kd.R Kd.string 9 w' w.heap.size (fun _ => True) v1_ r2 ∧ Below w.heap.size w w' := by
 have hu31 := Tryz.underlying31
 have HR0 := zK hr0
 have HC0 := zK hc0
 clear hr0 hc0
 have HB := zK (Below.refl w.heap.size w)
 have H : ((spec_StoreFault.f k l0).bind fun t599 => (if t599 = 0 then ((spec_l9Both.f k l0 a1 a2).bind fun bt600 => (if bt600.2.2 = 0 then ((spec_l9Bases.f k l0 bt600.1 bt600.2.1).bind fun t607 => (some (0, t607))) else (some (bt600.2.2, ([] : List ByteArray))))) else (some (t599, ([] : List ByteArray))))) = some (r1, r2) := h
 clear h
 replace H := Option.bind_eq_some_iff.mp H
 obtain ⟨t599, A40, H⟩ := H
 replace H : (if t599 = 0 then ((spec_l9Both.f k l0 a1 a2).bind fun bt600 => (if bt600.2.2 = 0 then ((spec_l9Bases.f k l0 bt600.1 bt600.2.1).bind fun t607 => (some (0, t607))) else (some (bt600.2.2, ([] : List ByteArray))))) else (some (t599, ([] : List ByteArray)))) = some (r1, r2) := H
 have A4 := zK A40
 clear A40
 by_cases c5 : t599 = 0
 ·
  rw [if_pos c5] at H
  have c5b0 : (t599 == 0) = true := beq_iff_eq.mpr c5
  have c5b1 : (t599 != 0) = false := bne_eq_false_iff_eq.mpr c5
  clear c5
  replace H := Option.bind_eq_some_iff.mp H
  obtain ⟨⟨t600, t601, t602⟩, A60, H⟩ := H
  replace H : (if t602 = 0 then ((spec_l9Bases.f k l0 t600 t601).bind fun t607 => (some (0, t607))) else (some (t602, ([] : List ByteArray)))) = some (r1, r2) := H
  have A6 := zK A60
  clear A60
  by_cases c7 : t602 = 0
  ·
   rw [if_pos c7] at H
   have c7b0 : (t602 == 0) = true := beq_iff_eq.mpr c7
   have c7b1 : (t602 != 0) = false := bne_eq_false_iff_eq.mpr c7
   clear c7
   replace H := Option.bind_eq_some_iff.mp H
   obtain ⟨t607, A80, H⟩ := H
   replace H : (some (0, t607)) = some (r1, r2) := H
   have A8 := zK A80
   clear A80
   simp only [Option.some.injEq, Prod.mk.injEq] at H
   obtain ⟨rfl, rfl⟩ := H
   go_enter Tryz.func22, Tryz.ntmps22
   go_wp2_with (first | ((with_reducible refine gate_dst (N := 6) rfl ?_); refine box_event ?hg (N := 6) ?hd (cs := #[.int .i64 0, .slice none 0 0]) (t := 31) ?hr ?_; (case hd => rfl); (case hg => rfl); (case hr => first | (go_simp; done) | (go_simp; rfl)); intro gb598 hg w9 hbox hb; have n0_ := zK (below_step zq0 hb); have n1_ := zK (hbox); have n2_ := zK ((by rw [hg]; exact (below_size zq0) : w.heap.size ≤ gb598)); have n3_ := zK ((by rw [hg]; exact (below_size zq0) : w.heap.size ≤ gb598)); clear HB; have HB := n0_; have BK598 := n1_; have GW598 := n2_; have GE598 := n3_; clear n0_ n1_ n2_ n3_; clear hb hbox hg) | ((with_reducible refine gate_callee (f := 28) rfl ?_); refine goesL_ (some 12) rfl rfl Tryz.func28 zq5 rfl #[.slice A0 l0.length c0] rfl zq1 ?_; (with_reducible refine (spec_StoreFault.calls k _ _ l0 t599 _ ?side1 ?side2 A4.out).mono ?_); (case side1 => repeat (first | exact (Kd.C_below HR0.out HB.out) | (with_reducible refine Kd.C_alloc ?_ _) | (with_reducible refine Kd.C_drewN ?_ _) | (with_reducible refine Kd.C_drew ?_))); (case side2 => exact HC0.out); rintro e w10 ⟨rfl, hb⟩; refine ⟨_, rfl, ?_⟩; have n0_ := zK (blk_below (g := gb598) (o := .cells #[.int .i64 0, .slice none 0 0] 31 (0, 0)) (by (with_reducible repeat (first | refine zM ?_ _ | refine zP ?_ | refine zQ ?_ _)); exact BK598.out) hb); have n1_ := zK (below_step (by repeat (first | (with_reducible first | exact HB.out | apply zA | apply zN | apply zD | refine below_set ?_ GE598.out) | exact HB.out)) hb); clear BK598; clear HB; have BK598 := n0_; have HB := n1_; clear n0_ n1_; (try clear hb); (try clear hb2); (try clear hk); (try clear hi)) | ((with_reducible refine gate_callee (f := 46) rfl ?_); refine goesL_ (some 21) rfl rfl Tryz.func46 zq5 rfl #[.slice A0 l0.length c0, .string a1, .string a2] rfl zq1 ?_; (with_reducible refine (spec_l9Both.calls k _ _ l0 a1 a2 t600 t601 t602 _ ?side1 ?side2 A6.out).mono ?_); (case side1 => repeat (first | exact (Kd.C_below HR0.out HB.out) | (with_reducible refine Kd.C_alloc ?_ _) | (with_reducible refine Kd.C_drewN ?_ _) | (with_reducible refine Kd.C_drew ?_))); (case side2 => exact HC0.out); rintro e w11 ⟨v603, v605, rfl, ho0, ho1, hb⟩; refine ⟨_, rfl, ?_⟩; have n0_ := zK (Kd.R_lower ho0 (below_size (by repeat (first | (with_reducible first | exact HB.out | apply zA | apply zN | apply zD | refine below_set ?_ GE598.out) | exact HB.out)))); have n1_ := zK (Kd.R_lower ho1 (below_size (by repeat (first | (with_reducible first | exact HB.out | apply zA | apply zN | apply zD | refine below_set ?_ GE598.out) | exact HB.out)))); have n2_ := zK (blk_below (g := gb598) (o := .cells #[.int .i64 0, .slice none 0 0] 31 (0, 0)) (by (with_reducible repeat (first | refine zM ?_ _ | refine zP ?_ | refine zQ ?_ _)); exact BK598.out) hb); have n3_ := zK (below_step (by repeat (first | (with_reducible first | exact HB.out | apply zA | apply zN | apply zD | refine below_set ?_ GE598.out) | exact HB.out)) hb); clear BK598; clear HB; have HO604 := n0_; have HO606 := n1_; have BK598 := n2_; have HB := n3_; clear n0_ n1_ n2_ n3_; (try clear hb); (try clear hb2); (try clear hk); (try clear hi); (try clear ho0); (try clear ho1); obtain ⟨Ao12, co12, eo12⟩ := Kd.R_slice HO604.out; subst eo12; obtain ⟨Ao13, co13, eo13⟩ := Kd.R_slice HO606.out; subst eo13) | ((with_reducible refine gate_callee (f := 47) rfl ?_); refine goesL_ (some 32) rfl rfl Tryz.func47 zq5 rfl #[.slice A0 l0.length c0, .slice Ao12 t600.length co12, .slice Ao13 t601.length co13] rfl zq1 ?_; (with_reducible refine (spec_l9Bases.calls k _ _ l0 _ _ t600 _ _ t601 t607 _ ?side1 ?side2 ?side3 ?side4 ?side5 ?side6 A8.out).mono ?_); (case side1 => repeat (first | exact (Kd.C_below HR0.out HB.out) | (with_reducible refine Kd.C_alloc ?_ _) | (with_reducible refine Kd.C_drewN ?_ _) | (with_reducible refine Kd.C_drew ?_))); (case side2 => exact HC0.out); (case side3 => repeat (first | exact (Kd.R_reads' HO604.out).2.2 | (with_reducible refine Kd.C_alloc ?_ _) | (with_reducible refine Kd.C_drewN ?_ _) | (with_reducible refine Kd.C_drew ?_))); (case side4 => exact (Kd.R_reads' HO604.out).2.1); (case side5 => repeat (first | exact (Kd.R_reads' HO606.out).2.2 | (with_reducible refine Kd.C_alloc ?_ _) | (with_reducible refine Kd.C_drewN ?_ _) | (with_reducible refine Kd.C_drew ?_))); (case side6 => exact (Kd.R_reads' HO606.out).2.1); rintro e w14 ⟨v608, rfl, ho0, hb⟩; refine ⟨_, rfl, ?_⟩; have n0_ := zK (Kd.R_elder' (by (with_reducible repeat (first | apply zR | apply zV | apply zW)); exact HO604.out) (Kd.R_base ho0) hb); have n1_ := zK (Kd.R_elder' (by (with_reducible repeat (first | apply zR | apply zV | apply zW)); exact HO606.out) (Kd.R_base ho0) hb); have n2_ := zK (Kd.R_lower (Kd.R_new' (Kd.R_new' ho0 (Kd.R_lt (by (with_reducible repeat (first | apply zR | apply zV | apply zW)); exact HO604.out))) (Kd.R_lt (by (with_reducible repeat (first | apply zR | apply zV | apply zW)); exact HO606.out))) (below_size (by repeat (first | (with_reducible first | exact HB.out | apply zA | apply zN | apply zD | refine below_set ?_ GE598.out) | exact HB.out)))); have n3_ := zK (blk_below (g := gb598) (o := .cells #[.int .i64 0, .slice none 0 0] 31 (0, 0)) (by (with_reducible repeat (first | refine zM ?_ _ | refine zP ?_ | refine zQ ?_ _)); exact BK598.out) hb); have n4_ := zK (below_step (by repeat (first | (with_reducible first | exact HB.out | apply zA | apply zN | apply zD | refine below_set ?_ GE598.out) | exact HB.out)) hb); clear HO604; clear HO606; clear BK598; clear HB; have HO604 := n0_; have HO606 := n1_; have HO609 := n2_; have BK598 := n3_; have HB := n4_; clear n0_ n1_ n2_ n3_ n4_; (try clear hb); (try clear hb2); (try clear hk); (try clear hi); (try clear ho0); obtain ⟨Ao15, co15, eo15⟩ := Kd.R_slice HO609.out; subst eo15; have hcz16_0 : w14.cell? ⟨gb598, 0, none⟩ = some (.int .i64 0) := (blk_cell BK598.out 0).trans rfl; have hcz16_1 : w14.cell? ⟨gb598, 1, none⟩ = some (.slice none 0 0) := (blk_cell BK598.out 1).trans rfl; have hfz16_0 := blk_frozen BK598.out 0; have hfz16_1 := blk_frozen BK598.out 1))
   refine bodyPost_ret (results_cell_row rfl _ _ gb598 31 #[.int .i64 0, .slice Ao15 t607.length co15] (0, 0) _ rfl (by (with_reducible repeat (first | refine zM ?_ _ | refine zP ?_ | refine zQ ?_ _)); refine blk_put (cs := #[.int .i64 0, .slice none 0 0]) ?_ 1 _ rfl; (with_reducible repeat (first | refine zM ?_ _ | refine zP ?_ | refine zQ ?_ _)); refine blk_put (cs := #[.int .i64 0, .slice none 0 0]) ?_ 0 _ rfl; (with_reducible repeat (first | refine zM ?_ _ | refine zP ?_ | refine zQ ?_ _)); exact BK598.out) Tryz.underlying31 rfl zq5) rfl ?_
   exact ⟨_, zq3, (by (with_reducible repeat (first | apply zR | apply zV | apply zW)); exact Kd.R_mono (Kd.R_far (p := ⟨gb598, 1, none⟩) (Kd.R_far (p := ⟨gb598, 0, none⟩) (Kd.R_types HO609.out BK598.out zq10) (fun _ hk => hk.2) (.int .i64 0)) (fun _ hk => hk.2) (.slice Ao15 t607.length co15)) (fun _ hk => trivial)), (by repeat (first | (with_reducible first | exact HB.out | apply zA | apply zN | apply zD | refine below_set ?_ GE598.out) | exact HB.out))⟩
  rw [if_neg c7] at H
  have c7b0 : (t602 == 0) = false := beq_eq_false_iff_ne.mpr c7
  have c7b1 : (t602 != 0) = true := bne_iff_ne.mpr c7
  simp only [Option.some.injEq, Prod.mk.injEq] at H
  obtain ⟨rfl, rfl⟩ := H
  go_enter Tryz.func22, Tryz.ntmps22
  go_wp2_with (first | ((with_reducible refine gate_dst (N := 6) rfl ?_); refine box_event ?hg (N := 6) ?hd (cs := #[.int .i64 0, .slice none 0 0]) (t := 31) ?hr ?_; (case hd => rfl); (case hg => rfl); (case hr => first | (go_simp; done) | (go_simp; rfl)); intro gb598 hg w17 hbox hb; have n0_ := zK (below_step zq0 hb); have n1_ := zK (hbox); have n2_ := zK ((by rw [hg]; exact (below_size zq0) : w.heap.size ≤ gb598)); have n3_ := zK ((by rw [hg]; exact (below_size zq0) : w.heap.size ≤ gb598)); clear HB; have HB := n0_; have BK598 := n1_; have GW598 := n2_; have GE598 := n3_; clear n0_ n1_ n2_ n3_; clear hb hbox hg) | ((with_reducible refine gate_callee (f := 28) rfl ?_); refine goesL_ (some 12) rfl rfl Tryz.func28 zq5 rfl #[.slice A0 l0.length c0] rfl zq1 ?_; (with_reducible refine (spec_StoreFault.calls k _ _ l0 t599 _ ?side1 ?side2 A4.out).mono ?_); (case side1 => repeat (first | exact (Kd.C_below HR0.out HB.out) | (with_reducible refine Kd.C_alloc ?_ _) | (with_reducible refine Kd.C_drewN ?_ _) | (with_reducible refine Kd.C_drew ?_))); (case side2 => exact HC0.out); rintro e w18 ⟨rfl, hb⟩; refine ⟨_, rfl, ?_⟩; have n0_ := zK (blk_below (g := gb598) (o := .cells #[.int .i64 0, .slice none 0 0] 31 (0, 0)) (by (with_reducible repeat (first | refine zM ?_ _ | refine zP ?_ | refine zQ ?_ _)); exact BK598.out) hb); have n1_ := zK (below_step (by repeat (first | (with_reducible first | exact HB.out | apply zA | apply zN | apply zD | refine below_set ?_ GE598.out) | exact HB.out)) hb); clear BK598; clear HB; have BK598 := n0_; have HB := n1_; clear n0_ n1_; (try clear hb); (try clear hb2); (try clear hk); (try clear hi)) | ((with_reducible refine gate_callee (f := 46) rfl ?_); refine goesL_ (some 21) rfl rfl Tryz.func46 zq5 rfl #[.slice A0 l0.length c0, .string a1, .string a2] rfl zq1 ?_; (with_reducible refine (spec_l9Both.calls k _ _ l0 a1 a2 t600 t601 t602 _ ?side1 ?side2 A6.out).mono ?_); (case side1 => repeat (first | exact (Kd.C_below HR0.out HB.out) | (with_reducible refine Kd.C_alloc ?_ _) | (with_reducible refine Kd.C_drewN ?_ _) | (with_reducible refine Kd.C_drew ?_))); (case side2 => exact HC0.out); rintro e w19 ⟨v603, v605, rfl, ho0, ho1, hb⟩; refine ⟨_, rfl, ?_⟩; have n0_ := zK (Kd.R_lower ho0 (below_size (by repeat (first | (with_reducible first | exact HB.out | apply zA | apply zN | apply zD | refine below_set ?_ GE598.out) | exact HB.out)))); have n1_ := zK (Kd.R_lower ho1 (below_size (by repeat (first | (with_reducible first | exact HB.out | apply zA | apply zN | apply zD | refine below_set ?_ GE598.out) | exact HB.out)))); have n2_ := zK (blk_below (g := gb598) (o := .cells #[.int .i64 0, .slice none 0 0] 31 (0, 0)) (by (with_reducible repeat (first | refine zM ?_ _ | refine zP ?_ | refine zQ ?_ _)); exact BK598.out) hb); have n3_ := zK (below_step (by repeat (first | (with_reducible first | exact HB.out | apply zA | apply zN | apply zD | refine below_set ?_ GE598.out) | exact HB.out)) hb); clear BK598; clear HB; have HO604 := n0_; have HO606 := n1_; have BK598 := n2_; have HB := n3_; clear n0_ n1_ n2_ n3_; (try clear hb); (try clear hb2); (try clear hk); (try clear hi); (try clear ho0); (try clear ho1); have hcz20_0 : w19.cell? ⟨gb598, 0, none⟩ = some (.int .i64 0) := (blk_cell BK598.out 0).trans rfl; have hcz20_1 : w19.cell? ⟨gb598, 1, none⟩ = some (.slice none 0 0) := (blk_cell BK598.out 1).trans rfl; have hfz20_0 := blk_frozen BK598.out 0; have hfz20_1 := blk_frozen BK598.out 1))
  refine bodyPost_ret (results_cell_row rfl _ _ gb598 31 #[.int .i64 t602, .slice none 0 0] (0, 0) _ rfl (by (with_reducible repeat (first | refine zM ?_ _ | refine zP ?_ | refine zQ ?_ _)); refine blk_put (cs := #[.int .i64 t602, .slice none 0 0]) ?_ 1 _ rfl; (with_reducible repeat (first | refine zM ?_ _ | refine zP ?_ | refine zQ ?_ _)); refine blk_put (cs := #[.int .i64 0, .slice none 0 0]) ?_ 0 _ rfl; (with_reducible repeat (first | refine zM ?_ _ | refine zP ?_ | refine zQ ?_ _)); exact BK598.out) Tryz.underlying31 rfl zq5) rfl ?_
  exact ⟨_, zq3, zq9, (by repeat (first | (with_reducible first | exact HB.out | apply zA | apply zN | apply zD | refine below_set ?_ GE598.out) | exact HB.out))⟩
 rw [if_neg c5] at H
 have c5b0 : (t599 == 0) = false := beq_eq_false_iff_ne.mpr c5
 have c5b1 : (t599 != 0) = true := bne_iff_ne.mpr c5
 simp only [Option.some.injEq, Prod.mk.injEq] at H
 obtain ⟨rfl, rfl⟩ := H
 go_enter Tryz.func22, Tryz.ntmps22
 go_wp2_with (first | ((with_reducible refine gate_dst (N := 6) rfl ?_); refine box_event ?hg (N := 6) ?hd (cs := #[.int .i64 0, .slice none 0 0]) (t := 31) ?hr ?_; (case hd => rfl); (case hg => rfl); (case hr => first | (go_simp; done) | (go_simp; rfl)); intro gb598 hg w21 hbox hb; have n0_ := zK (below_step zq0 hb); have n1_ := zK (hbox); have n2_ := zK ((by rw [hg]; exact (below_size zq0) : w.heap.size ≤ gb598)); have n3_ := zK ((by rw [hg]; exact (below_size zq0) : w.heap.size ≤ gb598)); clear HB; have HB := n0_; have BK598 := n1_; have GW598 := n2_; have GE598 := n3_; clear n0_ n1_ n2_ n3_; clear hb hbox hg) | ((with_reducible refine gate_callee (f := 28) rfl ?_); refine goesL_ (some 12) rfl rfl Tryz.func28 zq5 rfl #[.slice A0 l0.length c0] rfl zq1 ?_; (with_reducible refine (spec_StoreFault.calls k _ _ l0 t599 _ ?side1 ?side2 A4.out).mono ?_); (case side1 => repeat (first | exact (Kd.C_below HR0.out HB.out) | (with_reducible refine Kd.C_alloc ?_ _) | (with_reducible refine Kd.C_drewN ?_ _) | (with_reducible refine Kd.C_drew ?_))); (case side2 => exact HC0.out); rintro e w22 ⟨rfl, hb⟩; refine ⟨_, rfl, ?_⟩; have n0_ := zK (blk_below (g := gb598) (o := .cells #[.int .i64 0, .slice none 0 0] 31 (0, 0)) (by (with_reducible repeat (first | refine zM ?_ _ | refine zP ?_ | refine zQ ?_ _)); exact BK598.out) hb); have n1_ := zK (below_step (by repeat (first | (with_reducible first | exact HB.out | apply zA | apply zN | apply zD | refine below_set ?_ GE598.out) | exact HB.out)) hb); clear BK598; clear HB; have BK598 := n0_; have HB := n1_; clear n0_ n1_; (try clear hb); (try clear hb2); (try clear hk); (try clear hi); have hcz23_0 : w22.cell? ⟨gb598, 0, none⟩ = some (.int .i64 0) := (blk_cell BK598.out 0).trans rfl; have hcz23_1 : w22.cell? ⟨gb598, 1, none⟩ = some (.slice none 0 0) := (blk_cell BK598.out 1).trans rfl; have hfz23_0 := blk_frozen BK598.out 0; have hfz23_1 := blk_frozen BK598.out 1))
 refine bodyPost_ret (results_cell_row rfl _ _ gb598 31 #[.int .i64 t599, .slice none 0 0] (0, 0) _ rfl (by (with_reducible repeat (first | refine zM ?_ _ | refine zP ?_ | refine zQ ?_ _)); refine blk_put (cs := #[.int .i64 t599, .slice none 0 0]) ?_ 1 _ rfl; (with_reducible repeat (first | refine zM ?_ _ | refine zP ?_ | refine zQ ?_ _)); refine blk_put (cs := #[.int .i64 0, .slice none 0 0]) ?_ 0 _ rfl; (with_reducible repeat (first | refine zM ?_ _ | refine zP ?_ | refine zQ ?_ _)); exact BK598.out) Tryz.underlying31 rfl zq5) rfl ?_
 exact ⟨_, zq3, zq9, (by repeat (first | (with_reducible first | exact HB.out | apply zA | apply zN | apply zD | refine below_set ?_ GE598.out) | exact HB.out))⟩
def impl_reached.f (k : Nat) (l0 : List (S50)) (l1 : List ByteArray) : Option (List ByteArray) := X.reachF k l0 l1
theorem impl_reached.calls (k : Nat) (A0 : Option Addr) (c0 : Nat) (l0 : List (S50)) (A1 : Option Addr) (c1 : Nat) (l1 : List ByteArray) (r : List ByteArray) (w : World) (hr0 : Kd.C k50 w A0 l0.length l0) (hc0 : l0.length ≤ c0) (hr1 : Kd.C Kd.string w A1 l1.length l1) (hc1 : l1.length ≤ c1) (hG : Gt w) (h : impl_reached.f k l0 l1 = some r) :
  Calls Tryz.prog 44 #[.slice A0 l0.length c0, .slice A1 l1.length c1] w fun e w' => ∃ v0_ : Value, e = .returned (v0_) ∧ Kd.R Kd.string 9 w' w.heap.size (fun _ => True) v0_ r ∧ Below w.heap.size w w' := by
 unfold impl_reached.f X.reachF at h
 by_cases hk : (9000000 < k ∧ X.okO l0) ∧ l1.length ≤ 1048576
 ·
  rw [if_pos hk] at h
  obtain ⟨q, hq, rfl⟩ := Option.map_eq_some_iff.1 h
  exact X.reached_calls k A0 c0 l0 A1 c1 l1 (X.cmI l0) w hr0 hc0 hG hr1 hk.2 (X.cmI_all hk.1.2 hk.1.1) q hq
 rw [if_neg hk] at h
 cases h
def impl_historyOf.l0 : Nat → List (S50) → List ByteArray → List ByteArray → Int → Int → Option (List ByteArray × Int)
 | 0, _, _, _, _, _ => none
 | k + 1, x0, x6, x18, x19, x20 => if x20 < x19 then (if 0 ≤ x20 then (if x20 < (x18.length : Int) then ((impl_commitOf.f k x0 (rdOf ByteArray.empty x18 x20)).bind fun bt466 => (if bt466.2.2.2.2 = 0 then (impl_historyOf.l0 k x0 x6 x18 x19 (wrap64 (x20 + 1))) else (some (([] : List ByteArray), bt466.2.2.2.2)))) else (none)) else (none)) else (some (x6, 0))
def impl_historyOf.f (k : Nat) (l0 : List (S50)) (a1 : ByteArray) : Option (List ByteArray × Int) := (impl_reached.f k l0 (([a1] : List ByteArray))).bind fun t462 => (if (t462.length : Int) > 100 then (some (([] : List ByteArray), 2)) else (impl_historyOf.l0 k l0 t462 t462 (t462.length : Int) 0))
set_option maxHeartbeats 8000000 in
set_option maxRecDepth 100000 in
theorem impl_historyOf.calls (k : Nat) (A0 : Option Addr) (c0 : Nat) (l0 : List (S50)) (a1 : ByteArray) (r1 : List ByteArray) (r2 : Int) (w : World) (hr0 : Kd.C k50 w A0 l0.length l0) (hc0 : l0.length ≤ c0) (hG : Gt w) (h : impl_historyOf.f k l0 a1 = some (r1, r2)) :
  Calls Tryz.prog 35 #[.slice A0 l0.length c0, .string a1] w fun e w' => ∃ v0_ : Value, e = .returned (.tuple #[v0_, .int .i64 r2]) ∧ Kd.R Kd.string 9 w' w.heap.size (fun _ => True) v0_ r1 ∧ Below w.heap.size w w' := by
 have HG := zK hG
 clear hG
 have hu60 := Tryz.underlying60
 have HR0 := zK hr0
 have HC0 := zK hc0
 clear hr0 hc0
 have HB := zK (Below.refl w.heap.size w)
 have H : ((impl_reached.f k l0 (([a1] : List ByteArray))).bind fun t462 => (if (t462.length : Int) > 100 then (some (([] : List ByteArray), 2)) else (impl_historyOf.l0 k l0 t462 t462 (t462.length : Int) 0))) = some (r1, r2) := h
 clear h
 obtain ⟨y459, hy459⟩ : ∃ y_ : List ByteArray, y_ = (([a1] : List ByteArray)) := ⟨_, rfl⟩
 replace H : ((impl_reached.f k l0 y459).bind fun t462 => (if (t462.length : Int) > 100 then (some (([] : List ByteArray), 2)) else (impl_historyOf.l0 k l0 t462 t462 (t462.length : Int) 0))) = some (r1, r2) := by first | (rw [hy459]; with_reducible exact H) | (have H2_ := (Option.bind_some _ _).symm.trans H; rw [hy459]; with_reducible exact H2_) | (have H2_ := (Option.bind_some _ _).symm.trans H; with_reducible exact H2_) | with_reducible exact H | (rw [hy459]; exact H) | exact H
 have Ny459 := zK hy459
 clear hy459
 replace H := Option.bind_eq_some_iff.mp H
 obtain ⟨t462, A30, H⟩ := H
 replace H : (if (t462.length : Int) > 100 then (some (([] : List ByteArray), 2)) else (impl_historyOf.l0 k l0 t462 t462 (t462.length : Int) 0)) = some (r1, r2) := H
 have A3 := zK A30
 clear A30
 by_cases c4 : (t462.length : Int) > 100
 ·
  rw [if_pos c4] at H
  have c4b0 : decide (100 < (t462.length : Int)) = true := decide_eq_true c4
  have c4b1 : decide (100 < t462.length) = true := decide_eq_true zq6
  clear c4
  simp only [Option.some.injEq, Prod.mk.injEq] at H
  obtain ⟨rfl, rfl⟩ := H
  go_enter Tryz.func35, Tryz.ntmps35
  go_wp2_with (first | ((with_reducible refine gate_dst (N := 13) rfl ?_); refine Kd.R_lit Kd.string _ 9 ?hg (N := 13) ?hd (xs := ([a1] : List ByteArray)) (inner := [.string a1]) (ok := fun _ => True) (okp := fun _ => True) ?hr ?hp (fun _ hk => hk) trivial (Below.refl _ _) (Nat.le_refl _) zq13 ?_; (case hd => rfl); (case hg => rfl); (case hr => first | (go_simp; done) | (go_simp; rfl)); (case hp => exact (Reps.one (show Kd.M Kd.string _ _ _ a1 [.string a1] from rfl) (Reps.none _ _))); intro v460 w5 ho6 hb hg_ hnew_; clear hg_ hnew_; (first | rw [← Ny459.out] at ho6 | (simp only [Int.reduceToNat] at ho6; rw [← Ny459.out] at ho6)); have n0_ := zK (Kd.R_lower ho6 (below_size zq0)); have n1_ := zK (below_step zq0 hb); clear HB; have HO461 := n0_; have HB := n1_; clear n0_ n1_; clear hb ho6; obtain ⟨Ao7, co7, eo7⟩ := Kd.R_slice HO461.out; subst eo7) | ((with_reducible refine gate_callee (f := 44) rfl ?_); refine goesL_ (some 14) rfl rfl Tryz.func44 zq5 rfl #[.slice A0 l0.length c0, .slice Ao7 y459.length co7] rfl zq1 ?_; (with_reducible refine (impl_reached.calls k _ _ l0 _ _ y459 t462 _ ?side1 ?side2 ?side3 ?side4 (Gt.below HG.out zq0) A3.out).mono ?_); (case side1 => repeat (first | exact (Kd.C_below HR0.out HB.out) | (with_reducible refine Kd.C_alloc ?_ _) | (with_reducible refine Kd.C_drewN ?_ _) | (with_reducible refine Kd.C_drew ?_))); (case side2 => exact HC0.out); (case side3 => repeat (first | exact (Kd.R_reads' HO461.out).2.2 | (with_reducible refine Kd.C_alloc ?_ _) | (with_reducible refine Kd.C_drewN ?_ _) | (with_reducible refine Kd.C_drew ?_))); (case side4 => exact (Kd.R_reads' HO461.out).2.1); rintro e w8 ⟨v463, rfl, ho0, hb⟩; refine ⟨_, rfl, ?_⟩; have n0_ := zK (Kd.R_elder' zq29 (Kd.R_base ho0) hb); have n1_ := zK (Kd.R_lower (Kd.R_new' ho0 (Kd.R_lt zq29)) (below_size zq0)); have n2_ := zK (below_step zq0 hb); clear HO461; clear HB; have HO461 := n0_; have HO464 := n1_; have HB := n2_; clear n0_ n1_ n2_; (try clear hb); (try clear hb2); (try clear hk); (try clear hi); (try clear ho0); obtain ⟨Ao9, co9, eo9⟩ := Kd.R_slice HO464.out; subst eo9))
  go_ret2
  exact ⟨_, zq3, zq9, zq0⟩
 rw [if_neg c4] at H
 have c4b0 : decide (100 < (t462.length : Int)) = false := decide_eq_false c4
 have c4b1 : decide (100 < t462.length) = false := decide_eq_false zq6
 clear c4
 have H' := zK H
 clear H
 go_enter Tryz.func35, Tryz.ntmps35
 go_wp2_with (first | ((with_reducible refine gate_dst (N := 13) rfl ?_); refine Kd.R_lit Kd.string _ 9 ?hg (N := 13) ?hd (xs := ([a1] : List ByteArray)) (inner := [.string a1]) (ok := fun _ => True) (okp := fun _ => True) ?hr ?hp (fun _ hk => hk) trivial (Below.refl _ _) (Nat.le_refl _) zq13 ?_; (case hd => rfl); (case hg => rfl); (case hr => first | (go_simp; done) | (go_simp; rfl)); (case hp => exact (Reps.one (show Kd.M Kd.string _ _ _ a1 [.string a1] from rfl) (Reps.none _ _))); intro v460 w10 ho11 hb hg_ hnew_; clear hg_ hnew_; (first | rw [← Ny459.out] at ho11 | (simp only [Int.reduceToNat] at ho11; rw [← Ny459.out] at ho11)); have n0_ := zK (Kd.R_lower ho11 (below_size zq0)); have n1_ := zK (below_step zq0 hb); clear HB; have HO461 := n0_; have HB := n1_; clear n0_ n1_; clear hb ho11; obtain ⟨Ao12, co12, eo12⟩ := Kd.R_slice HO461.out; subst eo12) | ((with_reducible refine gate_callee (f := 44) rfl ?_); refine goesL_ (some 14) rfl rfl Tryz.func44 zq5 rfl #[.slice A0 l0.length c0, .slice Ao12 y459.length co12] rfl zq1 ?_; (with_reducible refine (impl_reached.calls k _ _ l0 _ _ y459 t462 _ ?side1 ?side2 ?side3 ?side4 (Gt.below HG.out zq0) A3.out).mono ?_); (case side1 => repeat (first | exact (Kd.C_below HR0.out HB.out) | (with_reducible refine Kd.C_alloc ?_ _) | (with_reducible refine Kd.C_drewN ?_ _) | (with_reducible refine Kd.C_drew ?_))); (case side2 => exact HC0.out); (case side3 => repeat (first | exact (Kd.R_reads' HO461.out).2.2 | (with_reducible refine Kd.C_alloc ?_ _) | (with_reducible refine Kd.C_drewN ?_ _) | (with_reducible refine Kd.C_drew ?_))); (case side4 => exact (Kd.R_reads' HO461.out).2.1); rintro e w13 ⟨v463, rfl, ho0, hb⟩; refine ⟨_, rfl, ?_⟩; have n0_ := zK (Kd.R_elder' zq29 (Kd.R_base ho0) hb); have n1_ := zK (Kd.R_lower (Kd.R_new' ho0 (Kd.R_lt zq29)) (below_size zq0)); have n2_ := zK (below_step zq0 hb); clear HO461; clear HB; have HO461 := n0_; have HO464 := n1_; have HB := n2_; clear n0_ n1_ n2_; (try clear hb); (try clear hb2); (try clear hk); (try clear hi); (try clear ho0); obtain ⟨Ao14, co14, eo14⟩ := Kd.R_slice HO464.out; subst eo14))
 go_loopg [20] k (fun kq v20 w' => ∃ (x20_1 : Int), v20 = .int .i64 x20_1 ∧ Aside0 (impl_historyOf.l0 kq l0 t462 t462 (t462.length : Int) x20_1 = some (r1, r2)) ∧ Aside0 (kq ≤ k) ∧ Aside0 (Kd.R Kd.string 9 w' w.heap.size (fun _ => True) (.slice Ao14 t462.length co14) t462) ∧ Aside0 (Kd.R Kd.string 9 w' w.heap.size (fun _ => True) (.slice Ao14 t462.length co14) t462) ∧ Aside0 (Below w.heap.size w w'))
 case atStart => exact ⟨(0), zq4, H', ⟨Nat.le_refl _⟩, ⟨by (with_reducible repeat (first | apply zR | apply zV | apply zW)); exact Kd.R_mono HO464.out (fun _ hk => trivial)⟩, ⟨by (with_reducible repeat (first | apply zR | apply zV | apply zW)); exact Kd.R_mono HO464.out (fun _ hk => trivial)⟩, ⟨by repeat (first | (with_reducible first | exact HB.out | apply zA | apply zN | apply zD) | exact HB.out)⟩⟩
 case round =>
  clear H'
  try clear p2
  try clear c3
  try clear c4
  try clear c4b0
  try clear c4b1
  obtain ⟨x20_1, rfl, HA, HK1, HO_6, HO_18, HB⟩ := hrel
  cases gk with
  | zero => exact absurd HA.out (by simp [impl_historyOf.l0])
  | succ k1 =>
   have H := HA.out
   clear HA
   simp only [impl_historyOf.l0] at H
   by_cases c15 : x20_1 < (t462.length : Int)
   ·
    rw [if_pos c15] at H
    have c15b0 : decide (x20_1 < (t462.length : Int)) = true := decide_eq_true c15
    clear c15
    by_cases c16 : 0 ≤ x20_1
    ·
     rw [if_pos c16] at H
     have c16b0 : decide (0 ≤ x20_1) = true := decide_eq_true c16
     clear c16
     by_cases c17 : x20_1 < (t462.length : Int)
     ·
      rw [if_pos c17] at H
      have c17b0 : decide (x20_1 < (t462.length : Int)) = true := decide_eq_true c17
      clear c17
      replace H := Option.bind_eq_some_iff.mp H
      obtain ⟨⟨t466, t467, t470, t471, t472⟩, A180, H⟩ := H
      replace H : (if t472 = 0 then (impl_historyOf.l0 k1 l0 t462 t462 (t462.length : Int) (wrap64 (x20_1 + 1))) else (some (([] : List ByteArray), t472))) = some (r1, r2) := H
      have A18 := zK A180
      clear A180
      by_cases c19 : t472 = 0
      ·
       rw [if_pos c19] at H
       have c19b0 : (t472 == 0) = true := beq_iff_eq.mpr c19
       have c19b1 : (t472 != 0) = false := bne_eq_false_iff_eq.mpr c19
       clear c19
       have H' := zK H
       clear H
       have p465 : 0 ≤ (x20_1 : Int) := zX zq2
       have q465 : x20_1 < (t462.length : Int) := zX zq2
       obtain ⟨ad465, e465, hx465_0⟩ := Kd.at_string (Kd.R_reads' HO_18.out).2.2 x20_1 p465 q465
       cases e465
       replace p465 := eq_true p465
       replace q465 := eq_true q465
       go_wp2_with (first | ((with_reducible refine gate_callee (f := 42) rfl ?_); refine goesL_ (some 27) rfl rfl Tryz.func42 zq5 rfl #[.slice A0 l0.length c0, .string (rdOf ByteArray.empty t462 x20_1)] rfl zq1 ?_; (with_reducible refine (impl_commitOf.calls k1 _ _ l0 (rdOf ByteArray.empty t462 x20_1) t466 t467 t470 t471 t472 _ ?side1 ?side2 (Gt.below HG.out zq0) A18.out).mono ?_); (case side1 => repeat (first | exact (Kd.C_below HR0.out HB.out) | (with_reducible refine Kd.C_alloc ?_ _) | (with_reducible refine Kd.C_drewN ?_ _) | (with_reducible refine Kd.C_drew ?_))); (case side2 => exact HC0.out); rintro e w20 ⟨v468, rfl, ho0, hb⟩; refine ⟨_, rfl, ?_⟩; have n0_ := zK (Kd.R_elder' zq17 (Kd.R_base ho0) hb); have n1_ := zK (Kd.R_elder' zq20 (Kd.R_base ho0) hb); have n2_ := zK (Kd.R_lower (Kd.R_new' (Kd.R_new' ho0 (Kd.R_lt zq17)) (Kd.R_lt zq20)) (below_size zq0)); have n3_ := zK (below_step zq0 hb); clear HO_6; clear HO_18; clear HB; have HO_6 := n0_; have HO_18 := n1_; have HO469 := n2_; have HB := n3_; clear n0_ n1_ n2_ n3_; (try clear hb); (try clear hb2); (try clear hk); (try clear hi); (try clear ho0)) | ((with_reducible refine gate_dst (N := 9) rfl ?_); refine box_event ?hg (N := 9) ?hd (cs := #[.string (⟨#[]⟩ : ByteArray), .slice none 0 0, .int .i64 0, .string (⟨#[]⟩ : ByteArray)]) (t := 60) ?hr ?_; (case hd => rfl); (case hg => rfl); (case hr => first | (go_simp; done) | (go_simp; rfl)); intro gb473 hg w21 hbox hb; have n0_ := zK (Kd.R_below zq17 hb); have n1_ := zK (Kd.R_below zq20 hb); have n2_ := zK (Kd.R_below (by (with_reducible repeat (first | apply zR | apply zV | apply zW)); exact HO469.out) hb); have n3_ := zK (below_step zq0 hb); have n4_ := zK (hbox); have n5_ := zK ((by rw [hg]; exact (below_size zq0) : w.heap.size ≤ gb473)); have n6_ := zK ((by rw [hg]; exact (below_size zq0) : w.heap.size ≤ gb473)); clear HO_6; clear HO_18; clear HO469; clear HB; have HO_6 := n0_; have HO_18 := n1_; have HO469 := n2_; have HB := n3_; have BK473 := n4_; have GW473 := n5_; have GE473 := n6_; clear n0_ n1_ n2_ n3_ n4_ n5_ n6_; clear hb hbox hg; have hcz22_0 : w21.cell? ⟨gb473, 0, none⟩ = some (.string (⟨#[]⟩ : ByteArray)) := (blk_cell BK473.out 0).trans rfl; have hcz22_1 : w21.cell? ⟨gb473, 1, none⟩ = some (.slice none 0 0) := (blk_cell BK473.out 1).trans rfl; have hcz22_2 : w21.cell? ⟨gb473, 2, none⟩ = some (.int .i64 0) := (blk_cell BK473.out 2).trans rfl; have hcz22_3 : w21.cell? ⟨gb473, 3, none⟩ = some (.string (⟨#[]⟩ : ByteArray)) := (blk_cell BK473.out 3).trans rfl; have hfz22_0 := blk_frozen BK473.out 0; have hfz22_1 := blk_frozen BK473.out 1; have hfz22_2 := blk_frozen BK473.out 2; have hfz22_3 := blk_frozen BK473.out 3; obtain ⟨Ao23, co23, eo23⟩ := Kd.R_slice HO469.out; subst eo23))
       go_roundg k1
       case measure => have := HK1.out; omega
       case rel => exact ⟨(wrap64 (x20_1 + 1)), zq4, H', ⟨by have := HK1.out; omega⟩, ⟨by (with_reducible repeat (first | apply zR | apply zV | apply zW)); exact Kd.R_mono (Kd.R_far (p := ⟨gb473, 3, none⟩) (Kd.R_far (p := ⟨gb473, 2, none⟩) (Kd.R_far (p := ⟨gb473, 1, none⟩) (Kd.R_far (p := ⟨gb473, 0, none⟩) (Kd.R_types HO_6.out BK473.out zq10) (fun _ hk => hk.2) (.string t466)) (fun _ hk => hk.2) (.slice Ao23 t467.length co23)) (fun _ hk => hk.2) (.int .i64 t470)) (fun _ hk => hk.2) (.string t471)) (fun _ hk => trivial)⟩, ⟨by (with_reducible repeat (first | apply zR | apply zV | apply zW)); exact Kd.R_mono (Kd.R_far (p := ⟨gb473, 3, none⟩) (Kd.R_far (p := ⟨gb473, 2, none⟩) (Kd.R_far (p := ⟨gb473, 1, none⟩) (Kd.R_far (p := ⟨gb473, 0, none⟩) (Kd.R_types HO_18.out BK473.out zq10) (fun _ hk => hk.2) (.string t466)) (fun _ hk => hk.2) (.slice Ao23 t467.length co23)) (fun _ hk => hk.2) (.int .i64 t470)) (fun _ hk => hk.2) (.string t471)) (fun _ hk => trivial)⟩, ⟨by repeat (first | (with_reducible first | exact HB.out | apply zA | apply zN | apply zD | refine below_set ?_ GE473.out) | exact HB.out)⟩⟩
      rw [if_neg c19] at H
      have c19b0 : (t472 == 0) = false := beq_eq_false_iff_ne.mpr c19
      have c19b1 : (t472 != 0) = true := bne_iff_ne.mpr c19
      simp only [Option.some.injEq, Prod.mk.injEq] at H
      obtain ⟨rfl, rfl⟩ := H
      have p465 : 0 ≤ (x20_1 : Int) := zX zq2
      have q465 : x20_1 < (t462.length : Int) := zX zq2
      obtain ⟨ad465, e465, hx465_0⟩ := Kd.at_string (Kd.R_reads' HO_18.out).2.2 x20_1 p465 q465
      cases e465
      replace p465 := eq_true p465
      replace q465 := eq_true q465
      go_wp2_with (first | ((with_reducible refine gate_callee (f := 42) rfl ?_); refine goesL_ (some 27) rfl rfl Tryz.func42 zq5 rfl #[.slice A0 l0.length c0, .string (rdOf ByteArray.empty t462 x20_1)] rfl zq1 ?_; (with_reducible refine (impl_commitOf.calls k1 _ _ l0 (rdOf ByteArray.empty t462 x20_1) t466 t467 t470 t471 t472 _ ?side1 ?side2 (Gt.below HG.out zq0) A18.out).mono ?_); (case side1 => repeat (first | exact (Kd.C_below HR0.out HB.out) | (with_reducible refine Kd.C_alloc ?_ _) | (with_reducible refine Kd.C_drewN ?_ _) | (with_reducible refine Kd.C_drew ?_))); (case side2 => exact HC0.out); rintro e w24 ⟨v468, rfl, ho0, hb⟩; refine ⟨_, rfl, ?_⟩; have n0_ := zK (Kd.R_elder' zq17 (Kd.R_base ho0) hb); have n1_ := zK (Kd.R_elder' zq20 (Kd.R_base ho0) hb); have n2_ := zK (Kd.R_lower (Kd.R_new' (Kd.R_new' ho0 (Kd.R_lt zq17)) (Kd.R_lt zq20)) (below_size zq0)); have n3_ := zK (below_step zq0 hb); clear HO_6; clear HO_18; clear HB; have HO_6 := n0_; have HO_18 := n1_; have HO469 := n2_; have HB := n3_; clear n0_ n1_ n2_ n3_; (try clear hb); (try clear hb2); (try clear hk); (try clear hi); (try clear ho0)) | ((with_reducible refine gate_dst (N := 9) rfl ?_); refine box_event ?hg (N := 9) ?hd (cs := #[.string (⟨#[]⟩ : ByteArray), .slice none 0 0, .int .i64 0, .string (⟨#[]⟩ : ByteArray)]) (t := 60) ?hr ?_; (case hd => rfl); (case hg => rfl); (case hr => first | (go_simp; done) | (go_simp; rfl)); intro gb473 hg w25 hbox hb; have n0_ := zK (Kd.R_below zq17 hb); have n1_ := zK (Kd.R_below zq20 hb); have n2_ := zK (Kd.R_below (by (with_reducible repeat (first | apply zR | apply zV | apply zW)); exact HO469.out) hb); have n3_ := zK (below_step zq0 hb); have n4_ := zK (hbox); have n5_ := zK ((by rw [hg]; exact (below_size zq0) : w.heap.size ≤ gb473)); have n6_ := zK ((by rw [hg]; exact (below_size zq0) : w.heap.size ≤ gb473)); clear HO_6; clear HO_18; clear HO469; clear HB; have HO_6 := n0_; have HO_18 := n1_; have HO469 := n2_; have HB := n3_; have BK473 := n4_; have GW473 := n5_; have GE473 := n6_; clear n0_ n1_ n2_ n3_ n4_ n5_ n6_; clear hb hbox hg; have hcz26_0 : w25.cell? ⟨gb473, 0, none⟩ = some (.string (⟨#[]⟩ : ByteArray)) := (blk_cell BK473.out 0).trans rfl; have hcz26_1 : w25.cell? ⟨gb473, 1, none⟩ = some (.slice none 0 0) := (blk_cell BK473.out 1).trans rfl; have hcz26_2 : w25.cell? ⟨gb473, 2, none⟩ = some (.int .i64 0) := (blk_cell BK473.out 2).trans rfl; have hcz26_3 : w25.cell? ⟨gb473, 3, none⟩ = some (.string (⟨#[]⟩ : ByteArray)) := (blk_cell BK473.out 3).trans rfl; have hfz26_0 := blk_frozen BK473.out 0; have hfz26_1 := blk_frozen BK473.out 1; have hfz26_2 := blk_frozen BK473.out 2; have hfz26_3 := blk_frozen BK473.out 3; obtain ⟨Ao27, co27, eo27⟩ := Kd.R_slice HO469.out; subst eo27))
      go_ret2
      exact ⟨_, zq3, zq9, (by repeat (first | (with_reducible first | exact HB.out | apply zA | apply zN | apply zD | refine below_set ?_ GE473.out) | exact HB.out))⟩
     rw [if_neg c17] at H
     exact absurd H zq13
    rw [if_neg c16] at H
    exact absurd H zq13
   rw [if_neg c15] at H
   have c15b0 : decide (x20_1 < (t462.length : Int)) = false := decide_eq_false c15
   clear c15
   simp only [Option.some.injEq, Prod.mk.injEq] at H
   obtain ⟨rfl, rfl⟩ := H
   go_wp2
   go_ret2
   exact ⟨_, zq3, zq17, zq0⟩
def impl_isAncestor.f (k : Nat) (l0 : List (S50)) (a1 : ByteArray) (a2 : ByteArray) : Option (Bool) := (impl_historyOf.f k l0 a2).bind fun bt474 => (if bt474.2 = 0 then ((slices_Contains_string_string.f k bt474.1 a1).bind fun t478 => (some t478)) else (some false))
set_option maxHeartbeats 8000000 in
set_option maxRecDepth 100000 in
theorem impl_isAncestor.calls (k : Nat) (A0 : Option Addr) (c0 : Nat) (l0 : List (S50)) (a1 : ByteArray) (a2 : ByteArray) (r : Bool) (w : World) (hr0 : Kd.C k50 w A0 l0.length l0) (hc0 : l0.length ≤ c0) (hG : Gt w) (h : impl_isAncestor.f k l0 a1 a2 = some r) :
  Calls Tryz.prog 32 #[.slice A0 l0.length c0, .string a1, .string a2] w fun e w' => e = .returned (.bool r) ∧ Below w.heap.size w w' := by
 have HG := zK hG
 clear hG
 have HR0 := zK hr0
 have HC0 := zK hc0
 clear hr0 hc0
 have HB := zK (Below.refl w.heap.size w)
 have H : ((impl_historyOf.f k l0 a2).bind fun bt474 => (if bt474.2 = 0 then ((slices_Contains_string_string.f k bt474.1 a1).bind fun t478 => (some t478)) else (some false))) = some r := h
 clear h
 replace H := Option.bind_eq_some_iff.mp H
 obtain ⟨⟨t474, t475⟩, A40, H⟩ := H
 replace H : (if t475 = 0 then ((slices_Contains_string_string.f k t474 a1).bind fun t478 => (some t478)) else (some false)) = some r := H
 have A4 := zK A40
 clear A40
 by_cases c5 : t475 = 0
 ·
  rw [if_pos c5] at H
  have c5b0 : (t475 == 0) = true := beq_iff_eq.mpr c5
  have c5b1 : (t475 != 0) = false := bne_eq_false_iff_eq.mpr c5
  clear c5
  replace H := Option.bind_eq_some_iff.mp H
  obtain ⟨t478, A60, H⟩ := H
  replace H : (some t478) = some r := H
  have A6 := zK A60
  clear A60
  obtain rfl := Option.some.inj H
  go_enter Tryz.func32, Tryz.ntmps32
  go_wp2_with (first | ((with_reducible refine gate_callee (f := 35) rfl ?_); refine goesL_ (some 12) rfl rfl Tryz.func35 zq5 rfl #[.slice A0 l0.length c0, .string a2] rfl zq1 ?_; (with_reducible refine (impl_historyOf.calls k _ _ l0 a2 t474 t475 _ ?side1 ?side2 (Gt.below HG.out zq0) A4.out).mono ?_); (case side1 => repeat (first | exact HR0.out | (with_reducible refine Kd.C_alloc ?_ _) | (with_reducible refine Kd.C_drewN ?_ _) | (with_reducible refine Kd.C_drew ?_))); (case side2 => exact HC0.out); rintro e w7 ⟨v476, rfl, ho0, hb⟩; refine ⟨_, rfl, ?_⟩; have n0_ := zK (Kd.R_lower ho0 (below_size zq0)); have n1_ := zK (below_step zq0 hb); clear HB; have HO477 := n0_; have HB := n1_; clear n0_ n1_; (try clear hb); (try clear hb2); (try clear hk); (try clear hi); (try clear ho0); obtain ⟨Ao8, co8, eo8⟩ := Kd.R_slice HO477.out; subst eo8) | (go_at_call 43; (with_reducible refine (slices_Contains_string_string.callsN k _ _ t474 a1 t478 _ ?side1 ?side2 A6.out).mono ?_); (case side1 => repeat (first | exact (Kd.R_reads' HO477.out).2.2 | (with_reducible refine Kd.C_alloc ?_ _) | (with_reducible refine Kd.C_drewN ?_ _) | (with_reducible refine Kd.C_drew ?_))); (case side2 => exact (Kd.R_reads' HO477.out).2.1); rintro e w' ⟨rfl, ⟨nd, rfl⟩⟩))
  go_ret
  exact ⟨zq3, zq0⟩
 rw [if_neg c5] at H
 have c5b0 : (t475 == 0) = false := beq_eq_false_iff_ne.mpr c5
 have c5b1 : (t475 != 0) = true := bne_iff_ne.mpr c5
 obtain rfl := Option.some.inj H
 go_enter Tryz.func32, Tryz.ntmps32
 go_wp2_with (first | ((with_reducible refine gate_callee (f := 35) rfl ?_); refine goesL_ (some 12) rfl rfl Tryz.func35 zq5 rfl #[.slice A0 l0.length c0, .string a2] rfl zq1 ?_; (with_reducible refine (impl_historyOf.calls k _ _ l0 a2 t474 t475 _ ?side1 ?side2 (Gt.below HG.out zq0) A4.out).mono ?_); (case side1 => repeat (first | exact HR0.out | (with_reducible refine Kd.C_alloc ?_ _) | (with_reducible refine Kd.C_drewN ?_ _) | (with_reducible refine Kd.C_drew ?_))); (case side2 => exact HC0.out); rintro e w9 ⟨v476, rfl, ho0, hb⟩; refine ⟨_, rfl, ?_⟩; have n0_ := zK (Kd.R_lower ho0 (below_size zq0)); have n1_ := zK (below_step zq0 hb); clear HB; have HO477 := n0_; have HB := n1_; clear n0_ n1_; (try clear hb); (try clear hb2); (try clear hk); (try clear hi); (try clear ho0)))
 go_ret
 exact ⟨zq3, zq0⟩
end Go.Proofs.YtpnoghcdfbmpoaaGreatDoor.PX

namespace Go.Proofs.YtpnoghcdfbmpoaaGreatDoor.PX.X
open Go Go.RowKit Go.Lib Go.Proofs.YtpnoghcdfbmpoaaGreatDoorW.PrintWords Go.Proofs.YtpnoghcdfbmpoaaGreatDoor.PX
set_option linter.unusedVariables false
set_option linter.unusedSimpArgs false
theorem litB1 (k : Nat) (x : ByteArray) (Y : List ByteArray) (A : Option Addr) (c gy : Nat) (W : World) (hc : W.cell? ⟨gy, 0, none⟩ = some (.slice A Y.length c)) (hY : Kd.C Kd.string W A Y.length Y) (hcap : Y.length ≤ c) (b : Bool) (hb : slices_Contains_string_string.f k Y x = some b) :
 Calls Tryz.prog 70 (#[.string x] ++ #[.pointer (some ⟨gy, 0, none⟩)]) W fun e w' => e = .returned (.bool (!b)) ∧ ∃ q, w' = W.drewN q := by
 have HC := Lib.hid (slices_Contains_string_string.calls k A c Y x b W hY hcap hb)
 clear hY hcap hb
 show Calls Tryz.prog 70 #[.string x, .pointer (some ⟨gy, 0, none⟩)] W _
 go_enter Tryz.func70, Tryz.ntmps70
 go_wp2_with (go_at_call 43; (with_reducible refine HC.out.mono ?_); rintro e w' ⟨rfl, ⟨q, rfl⟩⟩)
 go_ret
 exact ⟨rfl, _, rfl⟩
theorem b1_eg (args : Array Value) (w : World) : (callFunc 70 args).run Tryz.prog w = .ok (.enter 70 args) w := enters_of Tryz.func70 zq5 rfl args w
theorem litB2 (k : Nat) (o x : ByteArray) (A0 : Option Addr) (c0 : Nat) (l0 : List S50) (gi gs : Nat) (W : World) (hi : W.cell? ⟨gi, 0, none⟩ = some (.string x)) (hs : W.cell? ⟨gs, 0, none⟩ = some (.slice A0 l0.length c0)) (h0 : Kd.C k50 W A0 l0.length l0) (hc0 : l0.length ≤ c0) (hG : Gt W) (b : Bool) (hb : o ≠ x → impl_isAncestor.f k l0 x o = some b) :
 Calls Tryz.prog 72 #[.string o, .pointer (some ⟨gi, 0, none⟩), .pointer (some ⟨gs, 0, none⟩)] W fun e w' => e = .returned (.bool (decide (o ≠ x) && b)) ∧ Below W.heap.size W w' := by
 by_cases he : o = x
 · subst he
   rw [decide_eq_false (fun z => z rfl), Bool.false_and]
   have h1 : (o.toList != o.toList) = false := by simp
   have h2 : (o.toList == o.toList) = true := by simp
   clear h0 hc0 hG hb
   go_enter Tryz.func72, Tryz.ntmps72
   go_wp2
   go_ret
   exact ⟨rfl, Below.refl _ _⟩
 · rw [decide_eq_true he, Bool.true_and]
   have h1 : (o.toList != x.toList) = true := bne_iff_ne.2 (fun z => he (YtpnoghcdfbmpoaaGreatDoorX.toList_inj z))
   have h2 : (o.toList == x.toList) = false := beq_eq_false_iff_ne.2 (fun z => he (YtpnoghcdfbmpoaaGreatDoorX.toList_inj z))
   have HC := Lib.hid (impl_isAncestor.calls k A0 c0 l0 x o b W h0 hc0 hG (hb he))
   clear h0 hc0 hG hb he
   go_enter Tryz.func72, Tryz.ntmps72
   go_wp2_with (go_at_call 32; (with_reducible refine HC.out.mono ?_); rintro e w' ⟨rfl, hb'⟩)
   go_ret
   exact ⟨rfl, hb'⟩
theorem b2_eg (args : Array Value) (w : World) : (callFunc 72 args).run Tryz.prog w = .ok (.enter 72 args) w := enters_of Tryz.func72 zq5 rfl args w
end Go.Proofs.YtpnoghcdfbmpoaaGreatDoor.PX.X

namespace Go.Proofs.YtpnoghcdfbmpoaaGreatDoorX
open Go Go.RowKit Go.Proofs.YtpnoghcdfbmpoaaGreatDoorW.PrintWords Go.Proofs.YtpnoghcdfbmpoaaGreatDoor.PX
open Go.Proofs.YtpnoghcdfbmpoaaGreatDoor.PX.X (okO cmI cmI_all cmI_eq cmS cmS_eq cmS_all chkC codeC parsC sortB sortP rdS drop_getS)
set_option linter.unusedVariables false
theorem hist_l0 (l : List IObj) (h : okO l) (P : List ByteArray) (hP : P.length ≤ 1048576) : ∀ (d i : Nat), i + d = P.length → ∀ k, 9000001 + d < k → impl_historyOf.l0 k l P P (P.length : Int) (i : Int) = some (if chkC (cmI l) (P.drop i) = 0 then (P, 0) else ([], chkC (cmI l) (P.drop i)))
 | 0, i, hi, k, hk => by
   obtain ⟨k, rfl⟩ : ∃ m, k = m + 1 := ⟨k - 1, by omega⟩
   rw [impl_historyOf.l0, if_neg zq6, List.drop_eq_nil_of_le zq6]
   rfl
 | d + 1, i, hi, k, hk => by
   obtain ⟨k, rfl⟩ : ∃ m, k = m + 1 := ⟨k - 1, by omega⟩
   have hw : wrap64 ((i : Int) + 1) = ((i + 1 : Nat) : Int) := (wrap_in zq6 zq6).trans zq6
   rw [impl_historyOf.l0, if_pos zq6, if_pos zq6, if_pos zq6, rdS, cmI_all h zq6, Option.bind_some, hw, hist_l0 l h P hP d (i + 1) zq6 k zq6, drop_getS P i zq6]
   show _ = some (if (if codeC (cmI l (P.getD i ByteArray.empty)) = 0 then chkC (cmI l) (P.drop (i + 1)) else codeC (cmI l (P.getD i ByteArray.empty))) = 0 then (P, 0) else ([], (if codeC (cmI l (P.getD i ByteArray.empty)) = 0 then chkC (cmI l) (P.drop (i + 1)) else codeC (cmI l (P.getD i ByteArray.empty)))))
   by_cases hz : codeC (cmI l (P.getD i ByteArray.empty)) = 0
   · rw [if_pos hz, if_pos (show (cmI l (P.getD i ByteArray.empty)).2.2.2.2 = 0 from hz)]
   · rw [if_neg hz, if_neg (show ¬ (cmI l (P.getD i ByteArray.empty)).2.2.2.2 = 0 from hz), if_neg hz]
     rfl
noncomputable def namesU (l : List IObj) (id : ByteArray) : List ByteArray := id :: l.flatMap fun o => (comV l o.f0).2.1
theorem com_none (l : List IObj) (x : ByteArray) (h : ∀ o ∈ l, o.f0 ≠ x) : (comV l x).2.1 = [] := by
 have hg : getV l 3 x = none := by
  unfold getV
  cases hx : l[cnt (lessK oId x) l]? with
  | none => rfl
  | some o => 
    simp only
    rw [if_neg (h o (List.mem_of_getElem? hx))]
 unfold comV
 rw [hg]
theorem com_names (l : List IObj) (id x p : ByteArray) (hp : p ∈ (comV l x).2.1) : p ∈ namesU l id := by
 by_cases h : ∃ o ∈ l, o.f0 = x
 · obtain ⟨o, ho, rfl⟩ := h
   exact List.mem_cons_of_mem _ (List.mem_flatMap.2 ⟨o, ho, hp⟩)
 · rw [com_none l x (fun o ho z => h ⟨o, ho, z⟩)] at hp
   cases hp
theorem namesU_len (l : List IObj) (id : ByteArray) (hl : l.length ≤ 200) : (namesU l id).length ≤ 601 := by
 have : ∀ m : List IObj, (m.flatMap fun o => (comV l o.f0).2.1).length ≤ 3 * m.length := by
  intro m
  induction m with
  | nil => exact Nat.le_refl _
  | cons o m ih =>
    rw [List.flatMap_cons, List.length_append, List.length_cons]
    have := comV_len l o.f0
    omega
 have := this l
 unfold namesU
 rw [List.length_cons]
 omega
open Go.Proofs.YtpnoghcdfbmpoaaGreatDoor.PX.X (okO cmI cmI_all cmI_eq cmS cmS_eq cmS_all chkC codeC parsC sortB sortP rdS drop_getS histF histS reachF reachI seenO addNew sync fold_perm nodup_len sortB_sortP oAt_get)
set_option linter.unusedVariables false
theorem ok_of_store {l : List IObj} (hs : oSmall l) (h : storeV l = 0) : okO l := by
 obtain ⟨h1, _, h3⟩ := storeV_ok h
 refine ⟨h1, hs, fun i hi j hj hij => ?_⟩
 have ei : l[i]? = some l[i] := List.getElem?_eq_getElem hi
 have ej : l[j]? = some l[j] := List.getElem?_eq_getElem hj
 rw [oAt_get ei, oAt_get ej]
 exact h3 i j _ _ hij ei ej
theorem com_five (l : List IObj) (x p : ByteArray) (hp : p ∈ (comV l x).2.1) : p.size = 5 := by
 revert hp
 unfold comV
 cases getV l 3 x with
 | none => intro hp; cases hp
 | some D =>
   simp only
   split
   · rename_i h
     intro hp
     obtain ⟨_, u, hr, _⟩ := h
     have := (hr.ids p hp).2
     simpa using this
   · intro hp; cases hp
noncomputable def namesT (l : List IObj) (T : List ByteArray) : List ByteArray := T ++ l.flatMap fun o => (comV l o.f0).2.1
theorem names_com (l : List IObj) (T : List ByteArray) (x p : ByteArray) (hp : p ∈ (comV l x).2.1) : p ∈ namesT l T := by
 rcases List.mem_cons.1 (com_names l p x p hp) with h | h
 · by_cases hx : ∃ o ∈ l, o.f0 = x
   · obtain ⟨o, ho, rfl⟩ := hx
     exact List.mem_append.2 (.inr (List.mem_flatMap.2 ⟨o, ho, hp⟩))
   · rw [com_none l x (fun o ho z => hx ⟨o, ho, z⟩)] at hp
     cases hp
 · exact List.mem_append.2 (.inr h)
theorem names_len (l : List IObj) (T : List ByteArray) (hl : l.length ≤ 200) : (namesT l T).length ≤ T.length + 600 := by
 have := namesU_len l ⟨#[]⟩ hl
 unfold namesU at this
 unfold namesT
 rw [List.length_cons] at this
 rw [List.length_append]
 omega
theorem names_size (l : List IObj) (T : List ByteArray) (hT : ∀ x ∈ T, x.size ≤ 9223372036854775807) (p : ByteArray) (hp : p ∈ namesT l T) : p.size ≤ 9223372036854775807 := by
 rcases List.mem_append.1 hp with h | h
 · exact hT p h
 · obtain ⟨o, _, h⟩ := List.mem_flatMap.1 h
   have := com_five l o.f0 p h
   omega
theorem reach_all (l : List IObj) (h : okO l) (T : List ByteArray) (hT : T.length ≤ 100) (hs : ∀ x ∈ T, x.size ≤ 9223372036854775807) : ∃ R, R.Nodup ∧ (∀ x ∈ R, x ∈ namesT l T) ∧ ∀ k, 9000000 < k → reachI (comV l) k [] T = some R ∧ seenO (comV l) k 0 (addNew [] T) = some R := by
 have hN := names_len l T h.1
 have key := sync (comV l) (namesT l T) (fun x p hp => names_com l T x p hp) (fun x => comV_len l x) (names_size l T hs) 700 (fun L hn hL => by
  have := nodup_len L _ hn hL
  omega) zq6 3000 [] T zq6 List.nodup_nil (fun _ h => by cases h) (fun x hx => List.mem_append.2 (.inl hx)) (by simp only [List.length_nil]; omega)
 obtain ⟨R, h1, h2, h3, h4⟩ := key 3001 3001 zq6 zq6
 refine ⟨R, h1, h2, fun k hk => ⟨?_, ?_⟩⟩
 · obtain ⟨R', _, _, q3, q4⟩ := key k 3001 zq6 zq6
   rw [q3]
   exact q4.symm.trans h4
 · obtain ⟨R', _, _, q3, q4⟩ := key 3001 k zq6 zq6
   rw [show seenO (comV l) k 0 (addNew [] T) = some R' from q4]
   exact q3.symm.trans h3
theorem reached_all (l : List IObj) (h : okO l) (T : List ByteArray) (hT : T.length ≤ 100) (hs : ∀ x ∈ T, x.size ≤ 9223372036854775807) : ∃ R, R.Nodup ∧ (∀ x ∈ R, x ∈ namesT l T) ∧ (∀ k, 9000000 < k → impl_reached.f k l T = some (sortP R)) ∧ ∀ k, 9000000 < k → seenO (comV l) k 0 (addNew [] T) = some R := by
 obtain ⟨R, h1, h2, h3⟩ := reach_all l h T hT hs
 refine ⟨R, h1, h2, fun k hk => ?_, fun k hk => (h3 k hk).2⟩
 have hc2 : cmI l = comV l := funext (cmI_eq h)
 unfold impl_reached.f reachF
 rw [if_pos ⟨⟨hk, h⟩, by omega⟩, hc2, (h3 k hk).1, ← sortB_sortP R h1]
 rfl
theorem sort_perm (R : List ByteArray) (hn : R.Nodup) : (sortP R).Perm R := by
 have := (fold_perm R [] hn (fun _ _ h => by cases h) List.Pairwise.nil).1
 rwa [List.append_nil] at this
theorem hist_all (l : List IObj) (h : okO l) (id : ByteArray) (hs : id.size ≤ 9223372036854775807) : ∃ V : List ByteArray × Int, (∀ k, 9000300 < k → impl_historyOf.f k l id = some V ∧ spec_l9History.f k l id = some V) ∧ V.1.length ≤ 100 ∧ V.1.Nodup ∧ (¬ V.2 = 0 → V.1 = []) ∧ ∀ x ∈ V.1, x.size ≤ 9223372036854775807 := by
 have hs1 : ∀ x ∈ [id], x.size ≤ 9223372036854775807 := fun x hx => List.mem_singleton.1 hx ▸ hs
 obtain ⟨R, h1, h2, h3, h4⟩ := reached_all l h [id] zq13 hs1
 have hc1 : cmS l = comV l := funext (cmS_eq h)
 have hc2 : cmI l = comV l := funext (cmI_eq h)
 have hp := sort_perm R h1
 have hlen := hp.length_eq
 refine ⟨if 100 < R.length then ([], 2) else if chkC (comV l) (sortP R) = 0 then (sortP R, 0) else ([], chkC (comV l) (sortP R)), fun k hk => ⟨?_, ?_⟩, ?_, ?_, ?_, ?_⟩
 · unfold impl_historyOf.f
   rw [h3 k zq6, Option.bind_some]
   by_cases hl : 100 < R.length
   · rw [if_pos hl]
     repeat' first
      | rw [if_pos zq6]
      | rfl
   · rw [if_neg hl, if_neg zq6]
     have := hist_l0 l h (sortP R) zq6 (sortP R).length 0 zq6 k zq6
     rw [List.drop_zero, hc2] at this
     exact this
 · unfold spec_l9History.f histF
   rw [if_pos ⟨by omega, h⟩]
   unfold histS
   rw [hc1, show seenO (comV l) k 0 [id] = some R from h4 k zq6, Option.bind_some]
   by_cases hl : 100 < R.length
   · rw [if_pos hl, if_pos hl]
   · rw [if_neg hl, if_neg hl]
     by_cases hc : chkC (comV l) (sortP R) = 0
     · rw [if_pos hc, if_pos hc]
     · rw [if_neg hc, if_neg hc]
 · split
   · exact Nat.zero_le _
   · split
     · show (sortP R).length ≤ 100
       omega
     · exact Nat.zero_le _
 · split
   · exact List.nodup_nil
   · split
     · exact hp.symm.nodup h1
     · exact List.nodup_nil
 · split
   · intro _; rfl
   · split
     · intro z; exact absurd rfl z
     · intro _; rfl
 · intro x hx
   have : x ∈ R := by
    revert hx
    split
    · intro hx; cases hx
    · split
      · intro hx; exact hp.mem_iff.1 hx
      · intro hx; cases hx
   exact names_size l [id] hs1 x (h2 x this)
open Go.Proofs.YtpnoghcdfbmpoaaGreatDoor.PX.X (okO hasB hasS hasB_mem)
set_option linter.unusedVariables false
set_option linter.unusedSimpArgs false
theorem anc_all (l : List IObj) (h : okO l) (a b : ByteArray) (hb : b.size ≤ 9223372036854775807) : ∃ v : Bool, ∀ k, 9000300 < k → impl_isAncestor.f k l a b = some v ∧ spec_l9Ancestor.f k l a b = some v := by
 obtain ⟨V, hV, hl, _⟩ := hist_all l h b hb
 refine ⟨if V.2 = 0 then hasB V.1 a else false, fun k hk => ⟨?_, ?_⟩⟩
 · unfold impl_isAncestor.f
   rw [(hV k hk).1, Option.bind_some]
   by_cases hc : V.2 = 0
   · rw [if_pos hc, if_pos hc]
     obtain ⟨bv, h1, h2⟩ := contains_tells V.1 a zq6 k zq6
     rw [h1, Bool.eq_iff_iff.2 (h2.trans (hasB_mem V.1 a).symm)]
     rfl
   · rw [if_neg hc, if_neg hc]
 · unfold spec_l9Ancestor.f
   rw [(hV k hk).2, Option.bind_some]
   by_cases hc : V.2 = 0
   · rw [if_pos hc, if_pos hc]
     rw [hasS V.1 a zq6 k zq6]
     rfl
   · rw [if_neg hc, if_neg hc]
end Go.Proofs.YtpnoghcdfbmpoaaGreatDoorX
