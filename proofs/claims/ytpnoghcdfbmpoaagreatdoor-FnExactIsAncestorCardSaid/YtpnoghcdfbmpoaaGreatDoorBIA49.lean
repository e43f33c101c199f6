/- Texts of this claim set one behind another by wip/bundle.py: XHistE, PXf34, PXf29, PXf9, PXf44, PXf35, PXf32, PXf11, PXf3, XAncLaw, XHistV, XLawIsAncestor. -/
import Derived.Test.YtpnoghcdfbmpoaaGreatDoorBIA34
import Derived.Test.YtpnoghcdfbmpoaaGreatDoorBIA48
import Derived.Test.YtpnoghcdfbmpoaaGreatDoorBIA47
import Derived.Test.YtpnoghcdfbmpoaaGreatDoorBIA14
import Derived.Test.YtpnoghcdfbmpoaaGreatDoorBIA23
import Derived.Test.YtpnoghcdfbmpoaaGreatDoorBIA8
import Derived.Test.YtpnoghcdfbmpoaaGreatDoorBIA45
import Derived.Test.YtpnoghcdfbmpoaaGreatDoorBIA15
import Derived.Test.YtpnoghcdfbmpoaaGreatDoorBIA39
import Derived.Test.YtpnoghcdfbmpoaaGreatDoorBIA35
namespace Go.Proofs.YtpnoghcdfbmpoaaGreatDoor.PX.X
open Go Go.RowKit Go.Lib Go.Proofs.YtpnoghcdfbmpoaaGreatDoorW.PrintWords Go.Proofs.YtpnoghcdfbmpoaaGreatDoor.PX Go.Proofs.YtpnoghcdfbmpoaaGreatDoorX
set_option linter.unusedVariables false
def okO (l : List IObj) : Prop := l.length ≤ 200 ∧ (∀ x ∈ l, x.f2.size ≤ 1048576) ∧ ∀ i, i < l.length → ∀ j, j < l.length → i < j → lessB (oId (oAt l i)) (oId (oAt l j)) = true
instance (l : List IObj) : Decidable (okO l) := by unfold okO; infer_instance
theorem oAt_get {l : List IObj} {i : Nat} {x : IObj} (h : l[i]? = some x) : oAt l i = x := by unfold oAt; rw [List.getD_eq_getElem?_getD, h]; rfl
theorem okO_rising {l : List IObj} (h : okO l) : rising oId l := fun i j x y hij hx hy => by
  have := h.2.2 i (List.getElem?_eq_some_iff.1 hx).1 j (List.getElem?_eq_some_iff.1 hy).1 hij
  rwa [oAt_get hx, oAt_get hy] at this
def cmS (l : List IObj) (x : ByteArray) : CmR := (spec_l9Commit.f 9000001 l x).getD (⟨#[]⟩, [], 0, ⟨#[]⟩, 5)
def cmI (l : List IObj) (x : ByteArray) : CmR := (impl_commitOf.f 9000001 l x).getD (⟨#[]⟩, [], 0, ⟨#[]⟩, 5)
theorem cmS_eq {l : List IObj} (h : okO l) (x : ByteArray) : cmS l x = comV l x := by
  unfold cmS
  rw [spec_comV l x h.2.1 (okO_rising h) h.1 9000001 zq4]
  rfl
theorem cmI_eq {l : List IObj} (h : okO l) (x : ByteArray) : cmI l x = comV l x := by
  unfold cmI
  rw [impl_comV l x h.2.1 (okO_rising h) h.1 9000001 zq4]
  rfl
theorem cmS_all {l : List IObj} (h : okO l) {k : Nat} (hk : 9000000 < k) (x : ByteArray) : spec_l9Commit.f k l x = some (cmS l x) := by
  rw [cmS_eq h, spec_comV l x h.2.1 (okO_rising h) h.1 k hk]
theorem cmI_all {l : List IObj} (h : okO l) {k : Nat} (hk : 9000000 < k) (x : ByteArray) : impl_commitOf.f k l x = some (cmI l x) := by
  rw [cmI_eq h, impl_comV l x h.2.1 (okO_rising h) h.1 k zq4]
theorem seenO_mono (cm : ByteArray → CmR) : ∀ k i S, LeO (seenO cm k i S) (seenO cm (k + 1) i S)
  | 0 => fun _ _ r h => by simp [seenO] at h
  | k + 1 => by
    have ih := seenO_mono cm k
    intro i S
    unfold seenO
    repeat' first
      | (with_reducible exact ih _ _)
      | (with_reducible exact LeO.refl _)
      | (with_reducible exact LeO.none _)
      | (with_reducible refine LeO.ite ?_ ?_)
theorem histS_mono (cm : ByteArray → CmR) (k : Nat) (id : ByteArray) : LeO (histS cm k id) (histS cm (k + 1) id) := by
  unfold histS
  exact LeO.bind (seenO_mono cm k 0 [id]) (fun _ => LeO.refl _)
theorem reachI_mono (cm : ByteArray → CmR) : ∀ k L T, LeO (reachI cm k L T) (reachI cm (k + 1) L T)
  | 0 => fun _ _ r h => by simp [reachI] at h
  | k + 1 => by
    have ih := reachI_mono cm k
    intro L T
    unfold reachI
    repeat' first
      | (with_reducible exact ih _ _)
      | (with_reducible exact LeO.refl _)
      | (with_reducible exact LeO.none _)
      | (with_reducible refine LeO.ite ?_ ?_)
def histF (k : Nat) (l : List IObj) (id : ByteArray) : Option (List ByteArray × Int) := if 9000000 < k ∧ okO l then histS (cmS l) k id else none
def reachF (k : Nat) (l : List IObj) (T : List ByteArray) : Option (List ByteArray) := if (9000000 < k ∧ okO l) ∧ T.length ≤ 1048576 then (reachI (cmI l) k [] T).map sortB else none
theorem histF_mono (k : Nat) (l : List IObj) (id : ByteArray) : LeO (histF k l id) (histF (k + 1) l id) := by
  unfold histF
  by_cases h : 9000000 < k ∧ okO l
  · rw [if_pos h, if_pos ⟨by omega, h.2⟩]
    exact histS_mono _ k id
  · rw [if_neg h]
    exact LeO.none _
theorem reachF_mono (k : Nat) (l : List IObj) (T : List ByteArray) : LeO (reachF k l T) (reachF (k + 1) l T) := by
  unfold reachF
  by_cases h : (9000000 < k ∧ okO l) ∧ T.length ≤ 1048576
  · rw [if_pos h, if_pos ⟨⟨by omega, h.1.2⟩, h.2⟩]
    intro r hr
    obtain ⟨q, hq, rfl⟩ := Option.map_eq_some_iff.1 hr
    rw [reachI_mono _ k [] T q hq]
    rfl
  · rw [if_neg h]
    exact LeO.none _
end Go.Proofs.YtpnoghcdfbmpoaaGreatDoor.PX.X

namespace Go.Proofs.YtpnoghcdfbmpoaaGreatDoor.PX
open Go.RowKit Go.Proofs.YtpnoghcdfbmpoaaGreatDoorW.PrintWords Go.Proofs.YtpnoghcdfbmpoaaGreatDoorW.PrintLast Go.Proofs.YtpnoghcdfbmpoaaGreatDoorW.PrintMore
attribute [local go_sem] max2_int min2_int max_two min_two max_three min_three max_four min_four   -- for this text's walks alone
set_option linter.unusedVariables false
set_option linter.unusedSimpArgs false

/-! ### spec_l9History: function 34 -/
def spec_l9History.f (k : Nat) (l0 : List (S50)) (a1 : ByteArray) : Option (List ByteArray × Int) := X.histF k l0 a1
theorem spec_l9History.mono : ∀ a0 a1 k, LeO (spec_l9History.f k a0 a1) (spec_l9History.f (k + 1) a0 a1) := fun a0 a1 k => X.histF_mono k a0 a1
theorem spec_l9History.calls (k : Nat) (A0 : Option Addr) (c0 : Nat) (l0 : List (S50)) (a1 : ByteArray) (r1 : List ByteArray) (r2 : Int) (w : World) (hr0 : Kd.C k50 w A0 l0.length l0) (hc0 : l0.length ≤ c0) (h : spec_l9History.f k l0 a1 = some (r1, r2)) :
  Calls Tryz.prog 34 #[.slice A0 l0.length c0, .string a1] w fun e w' => ∃ v0_ : Value, e = .returned (.tuple #[v0_, .int .i64 r2]) ∧ Kd.R Kd.string 9 w' w.heap.size (fun _ => True) v0_ r1 ∧ Below w.heap.size w w' := by
 unfold spec_l9History.f X.histF at h
 by_cases hk : 9000000 < k ∧ X.okO l0
 ·
  rw [if_pos hk] at h
  exact X.histS_calls k A0 c0 l0 a1 (X.cmS l0) w hr0 hc0 zq4 (X.cmS_all hk.2 hk.1) r1 r2 h
 ·
  rw [if_neg hk] at h
  cases h


/-! ### spec_l9Ancestor: function 29 -/
def spec_l9Ancestor.f (k : Nat) (l0 : List (S50)) (a1 : ByteArray) (a2 : ByteArray) : Option (Bool) := (spec_l9History.f k l0 a2).bind fun bt221 => (if bt221.2 = 0 then ((spec_l9Has.f k bt221.1 a1).bind fun t225 => (some t225)) else (some false))
theorem spec_l9Ancestor.mono : ∀ a0 a1 a2 k, LeO (spec_l9Ancestor.f k a0 a1 a2) (spec_l9Ancestor.f (k + 1) a0 a1 a2) := by
 intro a0 a1 a2 k
 unfold spec_l9Ancestor.f
 repeat' first
   | (with_reducible exact spec_l9Has.mono _ _ _)
   | (with_reducible exact spec_l9History.mono _ _ _)
   | (with_reducible exact LeO.refl _)
   | (with_reducible exact LeO.none _)
   | (with_reducible refine LeO.ite ?_ ?_)
   | (with_reducible refine LeO.bind ?_ (fun _ => ?_))
   | exact spec_l9Has.mono _ _ _
   | exact spec_l9History.mono _ _ _
   | exact LeO.none _
   | refine LeO.ite ?_ ?_
   | refine LeO.bind ?_ (fun _ => ?_)
set_option maxHeartbeats 8000000 in
set_option maxRecDepth 100000 in
theorem spec_l9Ancestor.calls (k : Nat) (A0 : Option Addr) (c0 : Nat) (l0 : List (S50)) (a1 : ByteArray) (a2 : ByteArray) (r : Bool) (w : World) (hr0 : Kd.C k50 w A0 l0.length l0) (hc0 : l0.length ≤ c0) (h : spec_l9Ancestor.f k l0 a1 a2 = some r) :
  Calls Tryz.prog 29 #[.slice A0 l0.length c0, .string a1, .string a2] w fun e w' => e = .returned (.bool r) ∧ Below w.heap.size w w' := by
 have HR0 := zK hr0
 have HC0 := zK hc0
 clear hr0 hc0
 have HB := zK (Below.refl w.heap.size w)
 have H : ((spec_l9History.f k l0 a2).bind fun bt221 => (if bt221.2 = 0 then ((spec_l9Has.f k bt221.1 a1).bind fun t225 => (some t225)) else (some false))) = some r := h
 clear h
 replace H := Option.bind_eq_some_iff.mp H
 obtain ⟨⟨t221, t222⟩, A40, H⟩ := H
 replace H : (if t222 = 0 then ((spec_l9Has.f k t221 a1).bind fun t225 => (some t225)) else (some false)) = some r := H
 have A4 := zK A40
 clear A40
 by_cases c5 : t222 = 0
 ·
  rw [if_pos c5] at H
  have c5b0 : (t222 == 0) = true := beq_iff_eq.mpr c5
  have c5b1 : (t222 != 0) = false := bne_eq_false_iff_eq.mpr c5
  clear c5
  replace H := Option.bind_eq_some_iff.mp H
  obtain ⟨t225, A60, H⟩ := H
  replace H : (some t225) = some r := H
  have A6 := zK A60
  clear A60
  obtain rfl := Option.some.inj H
  go_enter Tryz.func29, Tryz.ntmps29
  go_wp2_with (first | ((with_reducible refine gate_callee (f := 34) rfl ?_); refine goesL_ (some 12) rfl rfl Tryz.func34 zq3 rfl #[.slice A0 l0.length c0, .string a2] rfl zq1 ?_; (with_reducible refine (spec_l9History.calls k _ _ l0 a2 t221 t222 _ ?side1 ?side2 A4.out).mono ?_); (case side1 => repeat (first | exact HR0.out | (with_reducible refine Kd.C_alloc ?_ _) | (with_reducible refine Kd.C_drewN ?_ _) | (with_reducible refine Kd.C_drew ?_))); (case side2 => exact HC0.out); rintro e w7 ⟨v223, rfl, ho0, hb⟩; refine ⟨_, rfl, ?_⟩; have n0_ := zK (Kd.R_lower ho0 (below_size zq0)); have n1_ := zK (below_step zq0 hb); clear HB; have HO224 := n0_; have HB := n1_; clear n0_ n1_; (try clear hb); (try clear hb2); (try clear hk); (try clear hi); (try clear ho0); obtain ⟨Ao8, co8, eo8⟩ := Kd.R_slice HO224.out; subst eo8) | (go_at_call 57; (with_reducible refine (spec_l9Has.calls k _ _ t221 a1 t225 _ ?side1 ?side2 A6.out).mono ?_); (case side1 => repeat (first | exact (Kd.R_reads' HO224.out).2.2 | (with_reducible refine Kd.C_alloc ?_ _) | (with_reducible refine Kd.C_drewN ?_ _) | (with_reducible refine Kd.C_drew ?_))); (case side2 => exact (Kd.R_reads' HO224.out).2.1); rintro e w' ⟨rfl, ⟨nd, rfl⟩⟩))
  go_ret
  exact ⟨by first | rfl | (simp [errW_none, errW_some] <;> rfl) | (simp [*, errW_none, errW_some] <;> rfl), by repeat (first | (with_reducible first | exact HB.out | apply zA | apply zN | apply zD) | exact HB.out)⟩
 ·
  rw [if_neg c5] at H
  have c5b0 : (t222 == 0) = false := beq_eq_false_iff_ne.mpr c5
  have c5b1 : (t222 != 0) = true := bne_iff_ne.mpr c5
  obtain rfl := Option.some.inj H
  go_enter Tryz.func29, Tryz.ntmps29
  go_wp2_with (first | ((with_reducible refine gate_callee (f := 34) rfl ?_); refine goesL_ (some 12) rfl rfl Tryz.func34 zq3 rfl #[.slice A0 l0.length c0, .string a2] rfl zq1 ?_; (with_reducible refine (spec_l9History.calls k _ _ l0 a2 t221 t222 _ ?side1 ?side2 A4.out).mono ?_); (case side1 => repeat (first | exact HR0.out | (with_reducible refine Kd.C_alloc ?_ _) | (with_reducible refine Kd.C_drewN ?_ _) | (with_reducible refine Kd.C_drew ?_))); (case side2 => exact HC0.out); rintro e w9 ⟨v223, rfl, ho0, hb⟩; refine ⟨_, rfl, ?_⟩; have n0_ := zK (Kd.R_lower ho0 (below_size zq0)); have n1_ := zK (below_step zq0 hb); clear HB; have HO224 := n0_; have HB := n1_; clear n0_ n1_; (try clear hb); (try clear hb2); (try clear hk); (try clear hi); (try clear ho0)))
  go_ret
  exact ⟨by first | rfl | (simp [errW_none, errW_some] <;> rfl) | (simp [*, errW_none, errW_some] <;> rfl), by repeat (first | (with_reducible first | exact HB.out | apply zA | apply zN | apply zD) | exact HB.out)⟩


/-! ### spec_IsAncestor: function 9 -/
def spec_IsAncestor.f (k : Nat) (l0 : List (S50)) (a1 : ByteArray) (a2 : ByteArray) : Option (Bool) := (spec_StoreFault.f k l0).bind fun t226 => (if t226 = 0 then ((spec_l9Ancestor.f k l0 a1 a2).bind fun t227 => (some t227)) else (some false))
theorem spec_IsAncestor.mono : ∀ a0 a1 a2 k, LeO (spec_IsAncestor.f k a0 a1 a2) (spec_IsAncestor.f (k + 1) a0 a1 a2) := by
 intro a0 a1 a2 k
 unfold spec_IsAncestor.f
 repeat' first
   | (with_reducible exact spec_StoreFault.mono _ _)
   | (with_reducible exact spec_l9Ancestor.mono _ _ _ _)
   | (with_reducible exact LeO.refl _)
   | (with_reducible exact LeO.none _)
   | (with_reducible refine LeO.ite ?_ ?_)
   | (with_reducible refine LeO.bind ?_ (fun _ => ?_))
   | exact spec_StoreFault.mono _ _
   | exact spec_l9Ancestor.mono _ _ _ _
   | exact LeO.none _
   | refine LeO.ite ?_ ?_
   | refine LeO.bind ?_ (fun _ => ?_)
set_option maxHeartbeats 8000000 in
set_option maxRecDepth 100000 in
theorem spec_IsAncestor.calls (k : Nat) (A0 : Option Addr) (c0 : Nat) (l0 : List (S50)) (a1 : ByteArray) (a2 : ByteArray) (r : Bool) (w : World) (hr0 : Kd.C k50 w A0 l0.length l0) (hc0 : l0.length ≤ c0) (h : spec_IsAncestor.f k l0 a1 a2 = some r) :
  Calls Tryz.prog 9 #[.slice A0 l0.length c0, .string a1, .string a2] w fun e w' => e = .returned (.bool r) ∧ Below w.heap.size w w' := by
 have HR0 := zK hr0
 have HC0 := zK hc0
 clear hr0 hc0
 have HB := zK (Below.refl w.heap.size w)
 have H : ((spec_StoreFault.f k l0).bind fun t226 => (if t226 = 0 then ((spec_l9Ancestor.f k l0 a1 a2).bind fun t227 => (some t227)) else (some false))) = some r := h
 clear h
 replace H := Option.bind_eq_some_iff.mp H
 obtain ⟨t226, A40, H⟩ := H
 replace H : (if t226 = 0 then ((spec_l9Ancestor.f k l0 a1 a2).bind fun t227 => (some t227)) else (some false)) = some r := H
 have A4 := zK A40
 clear A40
 by_cases c5 : t226 = 0
 ·
  rw [if_pos c5] at H
  have c5b0 : (t226 == 0) = true := beq_iff_eq.mpr c5
  have c5b1 : (t226 != 0) = false := bne_eq_false_iff_eq.mpr c5
  clear c5
  replace H := Option.bind_eq_some_iff.mp H
  obtain ⟨t227, A60, H⟩ := H
  replace H : (some t227) = some r := H
  have A6 := zK A60
  clear A60
  obtain rfl := Option.some.inj H
  go_enter Tryz.func9, Tryz.ntmps9
  go_wp2_with (first | ((with_reducible refine gate_callee (f := 28) rfl ?_); refine goesL_ (some 8) rfl rfl Tryz.func28 zq3 rfl #[.slice A0 l0.length c0] rfl zq1 ?_; (with_reducible refine (spec_StoreFault.calls k _ _ l0 t226 _ ?side1 ?side2 A4.out).mono ?_); (case side1 => repeat (first | exact HR0.out | (with_reducible refine Kd.C_alloc ?_ _) | (with_reducible refine Kd.C_drewN ?_ _) | (with_reducible refine Kd.C_drew ?_))); (case side2 => exact HC0.out); rintro e w7 ⟨rfl, hb⟩; refine ⟨_, rfl, ?_⟩; have n0_ := zK (below_step zq0 hb); clear HB; have HB := n0_; clear n0_; (try clear hb); (try clear hb2); (try clear hk); (try clear hi)) | (go_at_call 29; (with_reducible refine (spec_l9Ancestor.calls k _ _ l0 a1 a2 t227 _ ?side1 ?side2 A6.out).mono ?_); (case side1 => repeat (first | exact (Kd.C_below HR0.out HB.out) | (with_reducible refine Kd.C_alloc ?_ _) | (with_reducible refine Kd.C_drewN ?_ _) | (with_reducible refine Kd.C_drew ?_))); (case side2 => exact HC0.out); rintro e w8 ⟨rfl, hb⟩; have n0_ := zK (below_step zq0 hb); clear HB; have HB := n0_; clear n0_; (try clear hb); (try clear hb2); (try clear hk); (try clear hi)))
  go_ret
  exact ⟨by first | rfl | (simp [errW_none, errW_some] <;> rfl) | (simp [*, errW_none, errW_some] <;> rfl), by repeat (first | (with_reducible first | exact HB.out | apply zA | apply zN | apply zD) | exact HB.out)⟩
 ·
  rw [if_neg c5] at H
  have c5b0 : (t226 == 0) = false := beq_eq_false_iff_ne.mpr c5
  have c5b1 : (t226 != 0) = true := bne_iff_ne.mpr c5
  obtain rfl := Option.some.inj H
  go_enter Tryz.func9, Tryz.ntmps9
  go_wp2_with (first | ((with_reducible refine gate_callee (f := 28) rfl ?_); refine goesL_ (some 8) rfl rfl Tryz.func28 zq3 rfl #[.slice A0 l0.length c0] rfl zq1 ?_; (with_reducible refine (spec_StoreFault.calls k _ _ l0 t226 _ ?side1 ?side2 A4.out).mono ?_); (case side1 => repeat (first | exact HR0.out | (with_reducible refine Kd.C_alloc ?_ _) | (with_reducible refine Kd.C_drewN ?_ _) | (with_reducible refine Kd.C_drew ?_))); (case side2 => exact HC0.out); rintro e w9 ⟨rfl, hb⟩; refine ⟨_, rfl, ?_⟩; have n0_ := zK (below_step zq0 hb); clear HB; have HB := n0_; clear n0_; (try clear hb); (try clear hb2); (try clear hk); (try clear hi)))
  go_ret
  exact ⟨by first | rfl | (simp [errW_none, errW_some] <;> rfl) | (simp [*, errW_none, errW_some] <;> rfl), by repeat (first | (with_reducible first | exact HB.out | apply zA | apply zN | apply zD) | exact HB.out)⟩


/-! ### impl_reached: function 44 -/
def impl_reached.f (k : Nat) (l0 : List (S50)) (l1 : List ByteArray) : Option (List ByteArray) := X.reachF k l0 l1
theorem impl_reached.mono : ∀ a0 a1 k, LeO (impl_reached.f k a0 a1) (impl_reached.f (k + 1) a0 a1) := fun a0 a1 k => X.reachF_mono k a0 a1
theorem impl_reached.calls (k : Nat) (A0 : Option Addr) (c0 : Nat) (l0 : List (S50)) (A1 : Option Addr) (c1 : Nat) (l1 : List ByteArray) (r : List ByteArray) (w : World) (hr0 : Kd.C k50 w A0 l0.length l0) (hc0 : l0.length ≤ c0) (hr1 : Kd.C Kd.string w A1 l1.length l1) (hc1 : l1.length ≤ c1) (hG : Gt w) (h : impl_reached.f k l0 l1 = some r) :
  Calls Tryz.prog 44 #[.slice A0 l0.length c0, .slice A1 l1.length c1] w fun e w' => ∃ v0_ : Value, e = .returned (v0_) ∧ Kd.R Kd.string 9 w' w.heap.size (fun _ => True) v0_ r ∧ Below w.heap.size w w' := by
 unfold impl_reached.f X.reachF at h
 by_cases hk : (9000000 < k ∧ X.okO l0) ∧ l1.length ≤ 1048576
 ·
  rw [if_pos hk] at h
  obtain ⟨q, hq, rfl⟩ := Option.map_eq_some_iff.1 h
  exact X.reached_calls k A0 c0 l0 A1 c1 l1 (X.cmI l0) w hr0 hc0 hG hr1 hk.2 (X.cmI_all hk.1.2 hk.1.1) q hq
 ·
  rw [if_neg hk] at h
  cases h


/-! ### impl_historyOf: function 35 -/
def impl_historyOf.l0 : Nat → List (S50) → List ByteArray → List ByteArray → Int → Int → Option (List ByteArray × Int)
 | 0, _, _, _, _, _ => none
 | k + 1, x0, x6, x18, x19, x20 => if x20 < x19 then (if 0 ≤ x20 then (if x20 < (x18.length : Int) then ((impl_commitOf.f k x0 (rdOf ByteArray.empty x18 x20)).bind fun bt466 => (if bt466.2.2.2.2 = 0 then (impl_historyOf.l0 k x0 x6 x18 x19 (wrap64 (x20 + 1))) else (some (([] : List ByteArray), bt466.2.2.2.2)))) else (none)) else (none)) else (some (x6, 0))
def impl_historyOf.f (k : Nat) (l0 : List (S50)) (a1 : ByteArray) : Option (List ByteArray × Int) := (impl_reached.f k l0 (([a1] : List ByteArray))).bind fun t462 => (if (t462.length : Int) > 100 then (some (([] : List ByteArray), 2)) else (impl_historyOf.l0 k l0 t462 t462 (t462.length : Int) 0))
theorem impl_historyOf.mono_l : ∀ k, (∀ y0 y1 y2 y3 y4, LeO (impl_historyOf.l0 k y0 y1 y2 y3 y4) (impl_historyOf.l0 (k + 1) y0 y1 y2 y3 y4))
 | 0 => fun _ _ _ _ _ r h => by simp [impl_historyOf.l0] at h
 | k + 1 => by
  have ih0 := impl_historyOf.mono_l k
  ·
   intro y0 y1 y2 y3 y4
   unfold impl_historyOf.l0
   repeat' first
   | (with_reducible exact ih0 _ _ _ _ _)
   | (with_reducible exact impl_commitOf.mono _ _ _)
   | (with_reducible exact impl_reached.mono _ _ _)
   | (with_reducible exact LeO.refl _)
   | (with_reducible exact LeO.none _)
   | (with_reducible refine LeO.ite ?_ ?_)
   | (with_reducible refine LeO.bind ?_ (fun _ => ?_))
   | exact ih0 _ _ _ _ _
   | exact impl_commitOf.mono _ _ _
   | exact impl_reached.mono _ _ _
   | exact LeO.none _
   | refine LeO.ite ?_ ?_
   | refine LeO.bind ?_ (fun _ => ?_)
theorem impl_historyOf.mono : ∀ a0 a1 k, LeO (impl_historyOf.f k a0 a1) (impl_historyOf.f (k + 1) a0 a1) := by
 intro a0 a1 k
 have ih0 := impl_historyOf.mono_l k
 unfold impl_historyOf.f
 repeat' first
   | (with_reducible exact ih0 _ _ _ _ _)
   | (with_reducible exact impl_commitOf.mono _ _ _)
   | (with_reducible exact impl_reached.mono _ _ _)
   | (with_reducible exact LeO.refl _)
   | (with_reducible exact LeO.none _)
   | (with_reducible refine LeO.ite ?_ ?_)
   | (with_reducible refine LeO.bind ?_ (fun _ => ?_))
   | exact ih0 _ _ _ _ _
   | exact impl_commitOf.mono _ _ _
   | exact impl_reached.mono _ _ _
   | exact LeO.none _
   | refine LeO.ite ?_ ?_
   | refine LeO.bind ?_ (fun _ => ?_)
set_option maxHeartbeats 8000000 in
set_option maxRecDepth 100000 in
theorem impl_historyOf.calls (k : Nat) (A0 : Option Addr) (c0 : Nat) (l0 : List (S50)) (a1 : ByteArray) (r1 : List ByteArray) (r2 : Int) (w : World) (hr0 : Kd.C k50 w A0 l0.length l0) (hc0 : l0.length ≤ c0) (hG : Gt w) (h : impl_historyOf.f k l0 a1 = some (r1, r2)) :
  Calls Tryz.prog 35 #[.slice A0 l0.length c0, .string a1] w fun e w' => ∃ v0_ : Value, e = .returned (.tuple #[v0_, .int .i64 r2]) ∧ Kd.R Kd.string 9 w' w.heap.size (fun _ => True) v0_ r1 ∧ Below w.heap.size w w' := by
 have HG := zK hG
 clear hG
 have hu60 := Tryz.underlying60
 have HR0 := zK hr0
 have HC0 := zK hc0
 clear hr0 hc0
 have HB := zK (Below.refl w.heap.size w)
 have H : ((impl_reached.f k l0 (([a1] : List ByteArray))).bind fun t462 => (if (t462.length : Int) > 100 then (some (([] : List ByteArray), 2)) else (impl_historyOf.l0 k l0 t462 t462 (t462.length : Int) 0))) = some (r1, r2) := h
 clear h
 obtain ⟨y459, hy459⟩ : ∃ y_ : List ByteArray, y_ = (([a1] : List ByteArray)) := ⟨_, rfl⟩
 replace H : ((impl_reached.f k l0 y459).bind fun t462 => (if (t462.length : Int) > 100 then (some (([] : List ByteArray), 2)) else (impl_historyOf.l0 k l0 t462 t462 (t462.length : Int) 0))) = some (r1, r2) := by first | (rw [hy459]; with_reducible exact H) | (have H2_ := (Option.bind_some _ _).symm.trans H; rw [hy459]; with_reducible exact H2_) | (have H2_ := (Option.bind_some _ _).symm.trans H; with_reducible exact H2_) | with_reducible exact H | (rw [hy459]; exact H) | exact H
 have Ny459 := zK hy459
 clear hy459
 replace H := Option.bind_eq_some_iff.mp H
 obtain ⟨t462, A30, H⟩ := H
 replace H : (if (t462.length : Int) > 100 then (some (([] : List ByteArray), 2)) else (impl_historyOf.l0 k l0 t462 t462 (t462.length : Int) 0)) = some (r1, r2) := H
 have A3 := zK A30
 clear A30
 by_cases c4 : (t462.length : Int) > 100
 ·
  rw [if_pos c4] at H
  have c4b0 : decide (100 < (t462.length : Int)) = true := decide_eq_true c4
  have c4b1 : decide (100 < t462.length) = true := decide_eq_true zq4
  clear c4
  simp only [Option.some.injEq, Prod.mk.injEq] at H
  obtain ⟨rfl, rfl⟩ := H
  go_enter Tryz.func35, Tryz.ntmps35
  go_wp2_with (first | ((with_reducible refine gate_dst (N := 13) rfl ?_); refine Kd.R_lit Kd.string _ 9 ?hg (N := 13) ?hd (xs := ([a1] : List ByteArray)) (inner := [.string a1]) (ok := fun _ => True) (okp := fun _ => True) ?hr ?hp (fun _ hk => hk) trivial (Below.refl _ _) (Nat.le_refl _) zq9 ?_; (case hd => rfl); (case hg => rfl); (case hr => first | (go_simp; done) | (go_simp; rfl)); (case hp => exact (Reps.one (show Kd.M Kd.string _ _ _ a1 [.string a1] from rfl) (Reps.none _ _))); intro v460 w5 ho6 hb hg_ hnew_; clear hg_ hnew_; (first | rw [← Ny459.out] at ho6 | (simp only [Int.reduceToNat] at ho6; rw [← Ny459.out] at ho6)); have n0_ := zK (Kd.R_lower ho6 (below_size zq0)); have n1_ := zK (below_step zq0 hb); clear HB; have HO461 := n0_; have HB := n1_; clear n0_ n1_; clear hb ho6; obtain ⟨Ao7, co7, eo7⟩ := Kd.R_slice HO461.out; subst eo7) | ((with_reducible refine gate_callee (f := 44) rfl ?_); refine goesL_ (some 14) rfl rfl Tryz.func44 zq3 rfl #[.slice A0 l0.length c0, .slice Ao7 y459.length co7] rfl zq1 ?_; (with_reducible refine (impl_reached.calls k _ _ l0 _ _ y459 t462 _ ?side1 ?side2 ?side3 ?side4 (Gt.below HG.out zq0) A3.out).mono ?_); (case side1 => repeat (first | exact (Kd.C_below HR0.out HB.out) | (with_reducible refine Kd.C_alloc ?_ _) | (with_reducible refine Kd.C_drewN ?_ _) | (with_reducible refine Kd.C_drew ?_))); (case side2 => exact HC0.out); (case side3 => repeat (first | exact (Kd.R_reads' HO461.out).2.2 | (with_reducible refine Kd.C_alloc ?_ _) | (with_reducible refine Kd.C_drewN ?_ _) | (with_reducible refine Kd.C_drew ?_))); (case side4 => exact (Kd.R_reads' HO461.out).2.1); rintro e w8 ⟨v463, rfl, ho0, hb⟩; refine ⟨_, rfl, ?_⟩; have n0_ := zK (Kd.R_elder' (by (with_reducible repeat (first | apply zR | apply zV | apply zW)); exact HO461.out) (Kd.R_base ho0) hb); have n1_ := zK (Kd.R_lower (Kd.R_new' ho0 (Kd.R_lt (by (with_reducible repeat (first | apply zR | apply zV | apply zW)); exact HO461.out))) (below_size zq0)); have n2_ := zK (below_step zq0 hb); clear HO461; clear HB; have HO461 := n0_; have HO464 := n1_; have HB := n2_; clear n0_ n1_ n2_; (try clear hb); (try clear hb2); (try clear hk); (try clear hi); (try clear ho0); obtain ⟨Ao9, co9, eo9⟩ := Kd.R_slice HO464.out; subst eo9))
  go_ret2
  exact ⟨_, by first | rfl | (simp [errW_none, errW_some] <;> rfl) | (simp [*, errW_none, errW_some] <;> rfl), by first | exact Kd.R_nil _ _ _ _ _ | exact Kd.N_nil _ _ _ _ _ | exact Kd.V_nil _ _ _ _ _ | exact Kd.Q_nil _ _ _ _ _ | exact Kd.S_nil _ _ _ _ _, by repeat (first | (with_reducible first | exact HB.out | apply zA | apply zN | apply zD) | exact HB.out)⟩
 ·
  rw [if_neg c4] at H
  have c4b0 : decide (100 < (t462.length : Int)) = false := decide_eq_false c4
  have c4b1 : decide (100 < t462.length) = false := decide_eq_false zq4
  clear c4
  have H' := zK H
  clear H
  go_enter Tryz.func35, Tryz.ntmps35
  go_wp2_with (first | ((with_reducible refine gate_dst (N := 13) rfl ?_); refine Kd.R_lit Kd.string _ 9 ?hg (N := 13) ?hd (xs := ([a1] : List ByteArray)) (inner := [.string a1]) (ok := fun _ => True) (okp := fun _ => True) ?hr ?hp (fun _ hk => hk) trivial (Below.refl _ _) (Nat.le_refl _) zq9 ?_; (case hd => rfl); (case hg => rfl); (case hr => first | (go_simp; done) | (go_simp; rfl)); (case hp => exact (Reps.one (show Kd.M Kd.string _ _ _ a1 [.string a1] from rfl) (Reps.none _ _))); intro v460 w10 ho11 hb hg_ hnew_; clear hg_ hnew_; (first | rw [← Ny459.out] at ho11 | (simp only [Int.reduceToNat] at ho11; rw [← Ny459.out] at ho11)); have n0_ := zK (Kd.R_lower ho11 (below_size zq0)); have n1_ := zK (below_step zq0 hb); clear HB; have HO461 := n0_; have HB := n1_; clear n0_ n1_; clear hb ho11; obtain ⟨Ao12, co12, eo12⟩ := Kd.R_slice HO461.out; subst eo12) | ((with_reducible refine gate_callee (f := 44) rfl ?_); refine goesL_ (some 14) rfl rfl Tryz.func44 zq3 rfl #[.slice A0 l0.length c0, .slice Ao12 y459.length co12] rfl zq1 ?_; (with_reducible refine (impl_reached.calls k _ _ l0 _ _ y459 t462 _ ?side1 ?side2 ?side3 ?side4 (Gt.below HG.out zq0) A3.out).mono ?_); (case side1 => repeat (first | exact (Kd.C_below HR0.out HB.out) | (with_reducible refine Kd.C_alloc ?_ _) | (with_reducible refine Kd.C_drewN ?_ _) | (with_reducible refine Kd.C_drew ?_))); (case side2 => exact HC0.out); (case side3 => repeat (first | exact (Kd.R_reads' HO461.out).2.2 | (with_reducible refine Kd.C_alloc ?_ _) | (with_reducible refine Kd.C_drewN ?_ _) | (with_reducible refine Kd.C_drew ?_))); (case side4 => exact (Kd.R_reads' HO461.out).2.1); rintro e w13 ⟨v463, rfl, ho0, hb⟩; refine ⟨_, rfl, ?_⟩; have n0_ := zK (Kd.R_elder' (by (with_reducible repeat (first | apply zR | apply zV | apply zW)); exact HO461.out) (Kd.R_base ho0) hb); have n1_ := zK (Kd.R_lower (Kd.R_new' ho0 (Kd.R_lt (by (with_reducible repeat (first | apply zR | apply zV | apply zW)); exact HO461.out))) (below_size zq0)); have n2_ := zK (below_step zq0 hb); clear HO461; clear HB; have HO461 := n0_; have HO464 := n1_; have HB := n2_; clear n0_ n1_ n2_; (try clear hb); (try clear hb2); (try clear hk); (try clear hi); (try clear ho0); obtain ⟨Ao14, co14, eo14⟩ := Kd.R_slice HO464.out; subst eo14))
  go_loopg [20] k (fun kq v20 w' => ∃ (x20_1 : Int), v20 = .int .i64 x20_1 ∧ Aside0 (impl_historyOf.l0 kq l0 t462 t462 (t462.length : Int) x20_1 = some (r1, r2)) ∧ Aside0 (kq ≤ k) ∧ Aside0 (Kd.R Kd.string 9 w' w.heap.size (fun _ => True) (.slice Ao14 t462.length co14) t462) ∧ Aside0 (Kd.R Kd.string 9 w' w.heap.size (fun _ => True) (.slice Ao14 t462.length co14) t462) ∧ Aside0 (Below w.heap.size w w'))
  case atStart => exact ⟨(0), zq5, H', ⟨Nat.le_refl _⟩, ⟨by (with_reducible repeat (first | apply zR | apply zV | apply zW)); exact Kd.R_mono HO464.out (fun _ hk => trivial)⟩, ⟨by (with_reducible repeat (first | apply zR | apply zV | apply zW)); exact Kd.R_mono HO464.out (fun _ hk => trivial)⟩, ⟨by repeat (first | (with_reducible first | exact HB.out | apply zA | apply zN | apply zD) | exact HB.out)⟩⟩
  case round =>
   clear H'
   try clear p2
   try clear c3
   try clear c4
   try clear c4b0
   try clear c4b1
   obtain ⟨x20_1, rfl, HA, HK1, HO_6, HO_18, HB⟩ := hrel
   cases gk with
   | zero => exact absurd HA.out (by simp [impl_historyOf.l0])
   | succ k1 =>
    have H := HA.out
    clear HA
    simp only [impl_historyOf.l0] at H
    by_cases c15 : x20_1 < (t462.length : Int)
    ·
     rw [if_pos c15] at H
     have c15b0 : decide (x20_1 < (t462.length : Int)) = true := decide_eq_true c15
     clear c15
     by_cases c16 : 0 ≤ x20_1
     ·
      rw [if_pos c16] at H
      have c16b0 : decide (0 ≤ x20_1) = true := decide_eq_true c16
      clear c16
      by_cases c17 : x20_1 < (t462.length : Int)
      ·
       rw [if_pos c17] at H
       have c17b0 : decide (x20_1 < (t462.length : Int)) = true := decide_eq_true c17
       clear c17
       replace H := Option.bind_eq_some_iff.mp H
       obtain ⟨⟨t466, t467, t470, t471, t472⟩, A180, H⟩ := H
       replace H : (if t472 = 0 then (impl_historyOf.l0 k1 l0 t462 t462 (t462.length : Int) (wrap64 (x20_1 + 1))) else (some (([] : List ByteArray), t472))) = some (r1, r2) := H
       have A18 := zK A180
       clear A180
       by_cases c19 : t472 = 0
       ·
        rw [if_pos c19] at H
        have c19b0 : (t472 == 0) = true := beq_iff_eq.mpr c19
        have c19b1 : (t472 != 0) = false := bne_eq_false_iff_eq.mpr c19
        clear c19
        have H' := zK H
        clear H
        have p465 : 0 ≤ (x20_1 : Int) := zX zq2
        have q465 : x20_1 < (t462.length : Int) := zX zq2
        obtain ⟨ad465, e465, hx465_0⟩ := Kd.at_string (Kd.R_reads' HO_18.out).2.2 x20_1 p465 q465
        cases e465
        replace p465 := eq_true p465
        replace q465 := eq_true q465
        go_wp2_with (first | ((with_reducible refine gate_callee (f := 42) rfl ?_); refine goesL_ (some 27) rfl rfl Tryz.func42 zq3 rfl #[.slice A0 l0.length c0, .string (rdOf ByteArray.empty t462 x20_1)] rfl zq1 ?_; (with_reducible refine (impl_commitOf.calls k1 _ _ l0 (rdOf ByteArray.empty t462 x20_1) t466 t467 t470 t471 t472 _ ?side1 ?side2 (Gt.below HG.out zq0) A18.out).mono ?_); (case side1 => repeat (first | exact (Kd.C_below HR0.out HB.out) | (with_reducible refine Kd.C_alloc ?_ _) | (with_reducible refine Kd.C_drewN ?_ _) | (with_reducible refine Kd.C_drew ?_))); (case side2 => exact HC0.out); rintro e w20 ⟨v468, rfl, ho0, hb⟩; refine ⟨_, rfl, ?_⟩; have n0_ := zK (Kd.R_elder' (by (with_reducible repeat (first | apply zR | apply zV | apply zW)); exact HO_6.out) (Kd.R_base ho0) hb); have n1_ := zK (Kd.R_elder' (by (with_reducible repeat (first | apply zR | apply zV | apply zW)); exact HO_18.out) (Kd.R_base ho0) hb); have n2_ := zK (Kd.R_lower (Kd.R_new' (Kd.R_new' ho0 (Kd.R_lt (by (with_reducible repeat (first | apply zR | apply zV | apply zW)); exact HO_6.out))) (Kd.R_lt (by (with_reducible repeat (first | apply zR | apply zV | apply zW)); exact HO_18.out))) (below_size zq0)); have n3_ := zK (below_step zq0 hb); clear HO_6; clear HO_18; clear HB; have HO_6 := n0_; have HO_18 := n1_; have HO469 := n2_; have HB := n3_; clear n0_ n1_ n2_ n3_; (try clear hb); (try clear hb2); (try clear hk); (try clear hi); (try clear ho0)) | ((with_reducible refine gate_dst (N := 9) rfl ?_); refine box_event ?hg (N := 9) ?hd (cs := #[.string (⟨#[]⟩ : ByteArray), .slice none 0 0, .int .i64 0, .string (⟨#[]⟩ : ByteArray)]) (t := 60) ?hr ?_; (case hd => rfl); (case hg => rfl); (case hr => first | (go_simp; done) | (go_simp; rfl)); intro gb473 hg w21 hbox hb; have n0_ := zK (Kd.R_below (by (with_reducible repeat (first | apply zR | apply zV | apply zW)); exact HO_6.out) hb); have n1_ := zK (Kd.R_below (by (with_reducible repeat (first | apply zR | apply zV | apply zW)); exact HO_18.out) hb); have n2_ := zK (Kd.R_below (by (with_reducible repeat (first | apply zR | apply zV | apply zW)); exact HO469.out) hb); have n3_ := zK (below_step zq0 hb); have n4_ := zK (hbox); have n5_ := zK ((by rw [hg]; exact (below_size zq0) : w.heap.size ≤ gb473)); have n6_ := zK ((by rw [hg]; exact (below_size zq0) : w.heap.size ≤ gb473)); clear HO_6; clear HO_18; clear HO469; clear HB; have HO_6 := n0_; have HO_18 := n1_; have HO469 := n2_; have HB := n3_; have BK473 := n4_; have GW473 := n5_; have GE473 := n6_; clear n0_ n1_ n2_ n3_ n4_ n5_ n6_; clear hb hbox hg; have hcz22_0 : w21.cell? ⟨gb473, 0, none⟩ = some (.string (⟨#[]⟩ : ByteArray)) := (blk_cell BK473.out 0).trans rfl; have hcz22_1 : w21.cell? ⟨gb473, 1, none⟩ = some (.slice none 0 0) := (blk_cell BK473.out 1).trans rfl; have hcz22_2 : w21.cell? ⟨gb473, 2, none⟩ = some (.int .i64 0) := (blk_cell BK473.out 2).trans rfl; have hcz22_3 : w21.cell? ⟨gb473, 3, none⟩ = some (.string (⟨#[]⟩ : ByteArray)) := (blk_cell BK473.out 3).trans rfl; have hfz22_0 := blk_frozen BK473.out 0; have hfz22_1 := blk_frozen BK473.out 1; have hfz22_2 := blk_frozen BK473.out 2; have hfz22_3 := blk_frozen BK473.out 3; obtain ⟨Ao23, co23, eo23⟩ := Kd.R_slice HO469.out; subst eo23))
        go_roundg k1
        case measure => have := HK1.out; omega
        case rel => exact ⟨(wrap64 (x20_1 + 1)), zq5, H', ⟨by have := HK1.out; omega⟩, ⟨by (with_reducible repeat (first | apply zR | apply zV | apply zW)); exact Kd.R_mono (Kd.R_far (p := ⟨gb473, 3, none⟩) (Kd.R_far (p := ⟨gb473, 2, none⟩) (Kd.R_far (p := ⟨gb473, 1, none⟩) (Kd.R_far (p := ⟨gb473, 0, none⟩) (Kd.R_types HO_6.out BK473.out zq7) (fun _ hk => hk.2) (.string t466)) (fun _ hk => hk.2) (.slice Ao23 t467.length co23)) (fun _ hk => hk.2) (.int .i64 t470)) (fun _ hk => hk.2) (.string t471)) (fun _ hk => trivial)⟩, ⟨by (with_reducible repeat (first | apply zR | apply zV | apply zW)); exact Kd.R_mono (Kd.R_far (p := ⟨gb473, 3, none⟩) (Kd.R_far (p := ⟨gb473, 2, none⟩) (Kd.R_far (p := ⟨gb473, 1, none⟩) (Kd.R_far (p := ⟨gb473, 0, none⟩) (Kd.R_types HO_18.out BK473.out zq7) (fun _ hk => hk.2) (.string t466)) (fun _ hk => hk.2) (.slice Ao23 t467.length co23)) (fun _ hk => hk.2) (.int .i64 t470)) (fun _ hk => hk.2) (.string t471)) (fun _ hk => trivial)⟩, ⟨by repeat (first | (with_reducible first | exact HB.out | apply zA | apply zN | apply zD | refine below_set ?_ GE473.out) | exact HB.out)⟩⟩
       ·
        rw [if_neg c19] at H
        have c19b0 : (t472 == 0) = false := beq_eq_false_iff_ne.mpr c19
        have c19b1 : (t472 != 0) = true := bne_iff_ne.mpr c19
        simp only [Option.some.injEq, Prod.mk.injEq] at H
        obtain ⟨rfl, rfl⟩ := H
        have p465 : 0 ≤ (x20_1 : Int) := zX zq2
        have q465 : x20_1 < (t462.length : Int) := zX zq2
        obtain ⟨ad465, e465, hx465_0⟩ := Kd.at_string (Kd.R_reads' HO_18.out).2.2 x20_1 p465 q465
        cases e465
        replace p465 := eq_true p465
        replace q465 := eq_true q465
        go_wp2_with (first | ((with_reducible refine gate_callee (f := 42) rfl ?_); refine goesL_ (some 27) rfl rfl Tryz.func42 zq3 rfl #[.slice A0 l0.length c0, .string (rdOf ByteArray.empty t462 x20_1)] rfl zq1 ?_; (with_reducible refine (impl_commitOf.calls k1 _ _ l0 (rdOf ByteArray.empty t462 x20_1) t466 t467 t470 t471 t472 _ ?side1 ?side2 (Gt.below HG.out zq0) A18.out).mono ?_); (case side1 => repeat (first | exact (Kd.C_below HR0.out HB.out) | (with_reducible refine Kd.C_alloc ?_ _) | (with_reducible refine Kd.C_drewN ?_ _) | (with_reducible refine Kd.C_drew ?_))); (case side2 => exact HC0.out); rintro e w24 ⟨v468, rfl, ho0, hb⟩; refine ⟨_, rfl, ?_⟩; have n0_ := zK (Kd.R_elder' (by (with_reducible repeat (first | apply zR | apply zV | apply zW)); exact HO_6.out) (Kd.R_base ho0) hb); have n1_ := zK (Kd.R_elder' (by (with_reducible repeat (first | apply zR | apply zV | apply zW)); exact HO_18.out) (Kd.R_base ho0) hb); have n2_ := zK (Kd.R_lower (Kd.R_new' (Kd.R_new' ho0 (Kd.R_lt (by (with_reducible repeat (first | apply zR | apply zV | apply zW)); exact HO_6.out))) (Kd.R_lt (by (with_reducible repeat (first | apply zR | apply zV | apply zW)); exact HO_18.out))) (below_size zq0)); have n3_ := zK (below_step zq0 hb); clear HO_6; clear HO_18; clear HB; have HO_6 := n0_; have HO_18 := n1_; have HO469 := n2_; have HB := n3_; clear n0_ n1_ n2_ n3_; (try clear hb); (try clear hb2); (try clear hk); (try clear hi); (try clear ho0)) | ((with_reducible refine gate_dst (N := 9) rfl ?_); refine box_event ?hg (N := 9) ?hd (cs := #[.string (⟨#[]⟩ : ByteArray), .slice none 0 0, .int .i64 0, .string (⟨#[]⟩ : ByteArray)]) (t := 60) ?hr ?_; (case hd => rfl); (case hg => rfl); (case hr => first | (go_simp; done) | (go_simp; rfl)); intro gb473 hg w25 hbox hb; have n0_ := zK (Kd.R_below (by (with_reducible repeat (first | apply zR | apply zV | apply zW)); exact HO_6.out) hb); have n1_ := zK (Kd.R_below (by (with_reducible repeat (first | apply zR | apply zV | apply zW)); exact HO_18.out) hb); have n2_ := zK (Kd.R_below (by (with_reducible repeat (first | apply zR | apply zV | apply zW)); exact HO469.out) hb); have n3_ := zK (below_step zq0 hb); have n4_ := zK (hbox); have n5_ := zK ((by rw [hg]; exact (below_size zq0) : w.heap.size ≤ gb473)); have n6_ := zK ((by rw [hg]; exact (below_size zq0) : w.heap.size ≤ gb473)); clear HO_6; clear HO_18; clear HO469; clear HB; have HO_6 := n0_; have HO_18 := n1_; have HO469 := n2_; have HB := n3_; have BK473 := n4_; have GW473 := n5_; have GE473 := n6_; clear n0_ n1_ n2_ n3_ n4_ n5_ n6_; clear hb hbox hg; have hcz26_0 : w25.cell? ⟨gb473, 0, none⟩ = some (.string (⟨#[]⟩ : ByteArray)) := (blk_cell BK473.out 0).trans rfl; have hcz26_1 : w25.cell? ⟨gb473, 1, none⟩ = some (.slice none 0 0) := (blk_cell BK473.out 1).trans rfl; have hcz26_2 : w25.cell? ⟨gb473, 2, none⟩ = some (.int .i64 0) := (blk_cell BK473.out 2).trans rfl; have hcz26_3 : w25.cell? ⟨gb473, 3, none⟩ = some (.string (⟨#[]⟩ : ByteArray)) := (blk_cell BK473.out 3).trans rfl; have hfz26_0 := blk_frozen BK473.out 0; have hfz26_1 := blk_frozen BK473.out 1; have hfz26_2 := blk_frozen BK473.out 2; have hfz26_3 := blk_frozen BK473.out 3; obtain ⟨Ao27, co27, eo27⟩ := Kd.R_slice HO469.out; subst eo27))
        go_ret2
        exact ⟨_, by first | rfl | (simp [errW_none, errW_some] <;> rfl) | (simp [*, errW_none, errW_some] <;> rfl), by first | exact Kd.R_nil _ _ _ _ _ | exact Kd.N_nil _ _ _ _ _ | exact Kd.V_nil _ _ _ _ _ | exact Kd.Q_nil _ _ _ _ _ | exact Kd.S_nil _ _ _ _ _, by repeat (first | (with_reducible first | exact HB.out | apply zA | apply zN | apply zD | refine below_set ?_ GE473.out) | exact HB.out)⟩
      ·
       rw [if_neg c17] at H
       exact absurd H zq9
     ·
      rw [if_neg c16] at H
      exact absurd H zq9
    ·
     rw [if_neg c15] at H
     have c15b0 : decide (x20_1 < (t462.length : Int)) = false := decide_eq_false c15
     clear c15
     simp only [Option.some.injEq, Prod.mk.injEq] at H
     obtain ⟨rfl, rfl⟩ := H
     go_wp2
     go_ret2
     exact ⟨_, by first | rfl | (simp [errW_none, errW_some] <;> rfl) | (simp [*, errW_none, errW_some] <;> rfl), by (with_reducible repeat (first | apply zR | apply zV | apply zW)); exact HO_6.out, by repeat (first | (with_reducible first | exact HB.out | apply zA | apply zN | apply zD) | exact HB.out)⟩


/-! ### impl_isAncestor: function 32 -/
def impl_isAncestor.f (k : Nat) (l0 : List (S50)) (a1 : ByteArray) (a2 : ByteArray) : Option (Bool) := (impl_historyOf.f k l0 a2).bind fun bt474 => (if bt474.2 = 0 then ((slices_Contains_string_string.f k bt474.1 a1).bind fun t478 => (some t478)) else (some false))
theorem impl_isAncestor.mono : ∀ a0 a1 a2 k, LeO (impl_isAncestor.f k a0 a1 a2) (impl_isAncestor.f (k + 1) a0 a1 a2) := by
 intro a0 a1 a2 k
 unfold impl_isAncestor.f
 repeat' first
   | (with_reducible exact impl_historyOf.mono _ _ _)
   | (with_reducible exact slices_Contains_string_string.mono _ _ _)
   | (with_reducible exact LeO.refl _)
   | (with_reducible exact LeO.none _)
   | (with_reducible refine LeO.ite ?_ ?_)
   | (with_reducible refine LeO.bind ?_ (fun _ => ?_))
   | exact impl_historyOf.mono _ _ _
   | exact slices_Contains_string_string.mono _ _ _
   | exact LeO.none _
   | refine LeO.ite ?_ ?_
   | refine LeO.bind ?_ (fun _ => ?_)
set_option maxHeartbeats 8000000 in
set_option maxRecDepth 100000 in
theorem impl_isAncestor.calls (k : Nat) (A0 : Option Addr) (c0 : Nat) (l0 : List (S50)) (a1 : ByteArray) (a2 : ByteArray) (r : Bool) (w : World) (hr0 : Kd.C k50 w A0 l0.length l0) (hc0 : l0.length ≤ c0) (hG : Gt w) (h : impl_isAncestor.f k l0 a1 a2 = some r) :
  Calls Tryz.prog 32 #[.slice A0 l0.length c0, .string a1, .string a2] w fun e w' => e = .returned (.bool r) ∧ Below w.heap.size w w' := by
 have HG := zK hG
 clear hG
 have HR0 := zK hr0
 have HC0 := zK hc0
 clear hr0 hc0
 have HB := zK (Below.refl w.heap.size w)
 have H : ((impl_historyOf.f k l0 a2).bind fun bt474 => (if bt474.2 = 0 then ((slices_Contains_string_string.f k bt474.1 a1).bind fun t478 => (some t478)) else (some false))) = some r := h
 clear h
 replace H := Option.bind_eq_some_iff.mp H
 obtain ⟨⟨t474, t475⟩, A40, H⟩ := H
 replace H : (if t475 = 0 then ((slices_Contains_string_string.f k t474 a1).bind fun t478 => (some t478)) else (some false)) = some r := H
 have A4 := zK A40
 clear A40
 by_cases c5 : t475 = 0
 ·
  rw [if_pos c5] at H
  have c5b0 : (t475 == 0) = true := beq_iff_eq.mpr c5
  have c5b1 : (t475 != 0) = false := bne_eq_false_iff_eq.mpr c5
  clear c5
  replace H := Option.bind_eq_some_iff.mp H
  obtain ⟨t478, A60, H⟩ := H
  replace H : (some t478) = some r := H
  have A6 := zK A60
  clear A60
  obtain rfl := Option.some.inj H
  go_enter Tryz.func32, Tryz.ntmps32
  go_wp2_with (first | ((with_reducible refine gate_callee (f := 35) rfl ?_); refine goesL_ (some 12) rfl rfl Tryz.func35 zq3 rfl #[.slice A0 l0.length c0, .string a2] rfl zq1 ?_; (with_reducible refine (impl_historyOf.calls k _ _ l0 a2 t474 t475 _ ?side1 ?side2 (Gt.below HG.out zq0) A4.out).mono ?_); (case side1 => repeat (first | exact HR0.out | (with_reducible refine Kd.C_alloc ?_ _) | (with_reducible refine Kd.C_drewN ?_ _) | (with_reducible refine Kd.C_drew ?_))); (case side2 => exact HC0.out); rintro e w7 ⟨v476, rfl, ho0, hb⟩; refine ⟨_, rfl, ?_⟩; have n0_ := zK (Kd.R_lower ho0 (below_size zq0)); have n1_ := zK (below_step zq0 hb); clear HB; have HO477 := n0_; have HB := n1_; clear n0_ n1_; (try clear hb); (try clear hb2); (try clear hk); (try clear hi); (try clear ho0); obtain ⟨Ao8, co8, eo8⟩ := Kd.R_slice HO477.out; subst eo8) | (go_at_call 43; (with_reducible refine (slices_Contains_string_string.callsN k _ _ t474 a1 t478 _ ?side1 ?side2 A6.out).mono ?_); (case side1 => repeat (first | exact (Kd.R_reads' HO477.out).2.2 | (with_reducible refine Kd.C_alloc ?_ _) | (with_reducible refine Kd.C_drewN ?_ _) | (with_reducible refine Kd.C_drew ?_))); (case side2 => exact (Kd.R_reads' HO477.out).2.1); rintro e w' ⟨rfl, ⟨nd, rfl⟩⟩))
  go_ret
  exact ⟨by first | rfl | (simp [errW_none, errW_some] <;> rfl) | (simp [*, errW_none, errW_some] <;> rfl), by repeat (first | (with_reducible first | exact HB.out | apply zA | apply zN | apply zD) | exact HB.out)⟩
 ·
  rw [if_neg c5] at H
  have c5b0 : (t475 == 0) = false := beq_eq_false_iff_ne.mpr c5
  have c5b1 : (t475 != 0) = true := bne_iff_ne.mpr c5
  obtain rfl := Option.some.inj H
  go_enter Tryz.func32, Tryz.ntmps32
  go_wp2_with (first | ((with_reducible refine gate_callee (f := 35) rfl ?_); refine goesL_ (some 12) rfl rfl Tryz.func35 zq3 rfl #[.slice A0 l0.length c0, .string a2] rfl zq1 ?_; (with_reducible refine (impl_historyOf.calls k _ _ l0 a2 t474 t475 _ ?side1 ?side2 (Gt.below HG.out zq0) A4.out).mono ?_); (case side1 => repeat (first | exact HR0.out | (with_reducible refine Kd.C_alloc ?_ _) | (with_reducible refine Kd.C_drewN ?_ _) | (with_reducible refine Kd.C_drew ?_))); (case side2 => exact HC0.out); rintro e w9 ⟨v476, rfl, ho0, hb⟩; refine ⟨_, rfl, ?_⟩; have n0_ := zK (Kd.R_lower ho0 (below_size zq0)); have n1_ := zK (below_step zq0 hb); clear HB; have HO477 := n0_; have HB := n1_; clear n0_ n1_; (try clear hb); (try clear hb2); (try clear hk); (try clear hi); (try clear ho0)))
  go_ret
  exact ⟨by first | rfl | (simp [errW_none, errW_some] <;> rfl) | (simp [*, errW_none, errW_some] <;> rfl), by repeat (first | (with_reducible first | exact HB.out | apply zA | apply zN | apply zD) | exact HB.out)⟩


/-! ### impl_IsAncestor: function 11 -/
def impl_IsAncestor.f (k : Nat) (l0 : List (S50)) (a1 : ByteArray) (a2 : ByteArray) : Option (Bool) := (impl_StoreFault.f k l0).bind fun t479 => (if t479 = 0 then ((impl_isAncestor.f k l0 a1 a2).bind fun t480 => (some t480)) else (some false))
theorem impl_IsAncestor.mono : ∀ a0 a1 a2 k, LeO (impl_IsAncestor.f k a0 a1 a2) (impl_IsAncestor.f (k + 1) a0 a1 a2) := by
 intro a0 a1 a2 k
 unfold impl_IsAncestor.f
 repeat' first
   | (with_reducible exact impl_StoreFault.mono _ _)
   | (with_reducible exact impl_isAncestor.mono _ _ _ _)
   | (with_reducible exact LeO.refl _)
   | (with_reducible exact LeO.none _)
   | (with_reducible refine LeO.ite ?_ ?_)
   | (with_reducible refine LeO.bind ?_ (fun _ => ?_))
   | exact impl_StoreFault.mono _ _
   | exact impl_isAncestor.mono _ _ _ _
   | exact LeO.none _
   | refine LeO.ite ?_ ?_
   | refine LeO.bind ?_ (fun _ => ?_)
set_option maxHeartbeats 8000000 in
set_option maxRecDepth 100000 in
theorem impl_IsAncestor.calls (k : Nat) (A0 : Option Addr) (c0 : Nat) (l0 : List (S50)) (a1 : ByteArray) (a2 : ByteArray) (r : Bool) (w : World) (hr0 : Kd.C k50 w A0 l0.length l0) (hc0 : l0.length ≤ c0) (hG : Gt w) (h : impl_IsAncestor.f k l0 a1 a2 = some r) :
  Calls Tryz.prog 11 #[.slice A0 l0.length c0, .string a1, .string a2] w fun e w' => e = .returned (.bool r) ∧ Below w.heap.size w w' := by
 have HG := zK hG
 clear hG
 have HR0 := zK hr0
 have HC0 := zK hc0
 clear hr0 hc0
 have HB := zK (Below.refl w.heap.size w)
 have H : ((impl_StoreFault.f k l0).bind fun t479 => (if t479 = 0 then ((impl_isAncestor.f k l0 a1 a2).bind fun t480 => (some t480)) else (some false))) = some r := h
 clear h
 replace H := Option.bind_eq_some_iff.mp H
 obtain ⟨t479, A40, H⟩ := H
 replace H : (if t479 = 0 then ((impl_isAncestor.f k l0 a1 a2).bind fun t480 => (some t480)) else (some false)) = some r := H
 have A4 := zK A40
 clear A40
 by_cases c5 : t479 = 0
 ·
  rw [if_pos c5] at H
  have c5b0 : (t479 == 0) = true := beq_iff_eq.mpr c5
  have c5b1 : (t479 != 0) = false := bne_eq_false_iff_eq.mpr c5
  clear c5
  replace H := Option.bind_eq_some_iff.mp H
  obtain ⟨t480, A60, H⟩ := H
  replace H : (some t480) = some r := H
  have A6 := zK A60
  clear A60
  obtain rfl := Option.some.inj H
  go_enter Tryz.func11, Tryz.ntmps11
  go_wp2_with (first | ((with_reducible refine gate_callee (f := 31) rfl ?_); refine goesL_ (some 8) rfl rfl Tryz.func31 zq3 rfl #[.slice A0 l0.length c0] rfl zq1 ?_; (with_reducible refine (impl_StoreFault.calls k _ _ l0 t479 _ ?side1 ?side2 (Gt.below HG.out zq0) A4.out).mono ?_); (case side1 => repeat (first | exact HR0.out | (with_reducible refine Kd.C_alloc ?_ _) | (with_reducible refine Kd.C_drewN ?_ _) | (with_reducible refine Kd.C_drew ?_))); (case side2 => exact HC0.out); rintro e w7 ⟨rfl, hb⟩; refine ⟨_, rfl, ?_⟩; have n0_ := zK (below_step zq0 hb); clear HB; have HB := n0_; clear n0_; (try clear hb); (try clear hb2); (try clear hk); (try clear hi)) | (go_at_call 32; (with_reducible refine (impl_isAncestor.calls k _ _ l0 a1 a2 t480 _ ?side1 ?side2 (Gt.below HG.out zq0) A6.out).mono ?_); (case side1 => repeat (first | exact (Kd.C_below HR0.out HB.out) | (with_reducible refine Kd.C_alloc ?_ _) | (with_reducible refine Kd.C_drewN ?_ _) | (with_reducible refine Kd.C_drew ?_))); (case side2 => exact HC0.out); rintro e w8 ⟨rfl, hb⟩; have n0_ := zK (below_step zq0 hb); clear HB; have HB := n0_; clear n0_; (try clear hb); (try clear hb2); (try clear hk); (try clear hi)))
  go_ret
  exact ⟨by first | rfl | (simp [errW_none, errW_some] <;> rfl) | (simp [*, errW_none, errW_some] <;> rfl), by repeat (first | (with_reducible first | exact HB.out | apply zA | apply zN | apply zD) | exact HB.out)⟩
 ·
  rw [if_neg c5] at H
  have c5b0 : (t479 == 0) = false := beq_eq_false_iff_ne.mpr c5
  have c5b1 : (t479 != 0) = true := bne_iff_ne.mpr c5
  obtain rfl := Option.some.inj H
  go_enter Tryz.func11, Tryz.ntmps11
  go_wp2_with (first | ((with_reducible refine gate_callee (f := 31) rfl ?_); refine goesL_ (some 8) rfl rfl Tryz.func31 zq3 rfl #[.slice A0 l0.length c0] rfl zq1 ?_; (with_reducible refine (impl_StoreFault.calls k _ _ l0 t479 _ ?side1 ?side2 (Gt.below HG.out zq0) A4.out).mono ?_); (case side1 => repeat (first | exact HR0.out | (with_reducible refine Kd.C_alloc ?_ _) | (with_reducible refine Kd.C_drewN ?_ _) | (with_reducible refine Kd.C_drew ?_))); (case side2 => exact HC0.out); rintro e w9 ⟨rfl, hb⟩; refine ⟨_, rfl, ?_⟩; have n0_ := zK (below_step zq0 hb); clear HB; have HB := n0_; clear n0_; (try clear hb); (try clear hb2); (try clear hk); (try clear hi)))
  go_ret
  exact ⟨by first | rfl | (simp [errW_none, errW_some] <;> rfl) | (simp [*, errW_none, errW_some] <;> rfl), by repeat (first | (with_reducible first | exact HB.out | apply zA | apply zN | apply zD) | exact HB.out)⟩


/-! ### laws_FnExactIsAncestor: function 3 -/
def laws_FnExactIsAncestor.f (k : Nat) (l0 : List (S48)) (a1 : ByteArray) (a2 : ByteArray) : Option (Bool) := if (a1.size : Int) > 1048576 then (some true) else (if (a2.size : Int) > 1048576 then (some true) else ((laws_szObjectS.f k l0 1048576).bind fun t486 => (if t486 < 0 then (some true) else ((laws_toObjectS.f k l0).bind fun t487 => ((spec_IsAncestor.f k t487 a1 a2).bind fun t490 => ((laws_toObjectS.f k l0).bind fun t491 => ((impl_IsAncestor.f k t491 a1 a2).bind fun t494 => (if (t494 != t490) = true then (some false) else ((laws_toObjectS.f k l0).bind fun t495 => ((laws_eqObjectS.f k t491 t495).bind fun t498 => (if t498 = true then (some true) else (some false))))))))))))
theorem laws_FnExactIsAncestor.mono : ∀ a0 a1 a2 k, LeO (laws_FnExactIsAncestor.f k a0 a1 a2) (laws_FnExactIsAncestor.f (k + 1) a0 a1 a2) := by
 intro a0 a1 a2 k
 unfold laws_FnExactIsAncestor.f
 repeat' first
   | (with_reducible exact impl_IsAncestor.mono _ _ _ _)
   | (with_reducible exact laws_eqObjectS.mono _ _ _)
   | (with_reducible exact laws_szObjectS.mono _ _ _)
   | (with_reducible exact laws_toObjectS.mono _ _)
   | (with_reducible exact spec_IsAncestor.mono _ _ _ _)
   | (with_reducible exact LeO.refl _)
   | (with_reducible exact LeO.none _)
   | (with_reducible refine LeO.ite ?_ ?_)
   | (with_reducible refine LeO.bind ?_ (fun _ => ?_))
   | exact impl_IsAncestor.mono _ _ _ _
   | exact laws_eqObjectS.mono _ _ _
   | exact laws_szObjectS.mono _ _ _
   | exact laws_toObjectS.mono _ _
   | exact spec_IsAncestor.mono _ _ _ _
   | exact LeO.none _
   | refine LeO.ite ?_ ?_
   | refine LeO.bind ?_ (fun _ => ?_)
set_option maxHeartbeats 8000000 in
set_option maxRecDepth 100000 in
theorem laws_FnExactIsAncestor.calls (k : Nat) (A0 : Option Addr) (c0 : Nat) (l0 : List (S48)) (a1 : ByteArray) (a2 : ByteArray) (r : Bool) (w : World) (hr0 : Kd.C k48 w A0 l0.length l0) (hc0 : l0.length ≤ c0) (hG : Gt w) (h : laws_FnExactIsAncestor.f k l0 a1 a2 = some r) (hT_ : r = true := by rfl) :
  Calls Tryz.prog 3 #[.slice A0 l0.length c0, .string a1, .string a2] w fun e w' => e = .returned (.bool r) ∧ Below w.heap.size w w' := by
 have HG := zK hG
 clear hG
 have HR0 := zK hr0
 have HC0 := zK hc0
 clear hr0 hc0
 have HB := zK (Below.refl w.heap.size w)
 have H : (if (a1.size : Int) > 1048576 then (some true) else (if (a2.size : Int) > 1048576 then (some true) else ((laws_szObjectS.f k l0 1048576).bind fun t486 => (if t486 < 0 then (some true) else ((laws_toObjectS.f k l0).bind fun t487 => ((spec_IsAncestor.f k t487 a1 a2).bind fun t490 => ((laws_toObjectS.f k l0).bind fun t491 => ((impl_IsAncestor.f k t491 a1 a2).bind fun t494 => (if (t494 != t490) = true then (some false) else ((laws_toObjectS.f k l0).bind fun t495 => ((laws_eqObjectS.f k t491 t495).bind fun t498 => (if t498 = true then (some true) else (some false))))))))))))) = some r := h
 clear h
 by_cases c4 : (a1.size : Int) > 1048576
 ·
  rw [if_pos c4] at H
  have c4b0 : decide (1048576 < (a1.size : Int)) = true := decide_eq_true c4
  have c4b1 : decide (1048576 < a1.size) = true := decide_eq_true zq4
  clear c4
  obtain rfl := Option.some.inj H
  go_enter Tryz.func3, Tryz.ntmps3
  go_wp2
  go_ret
  exact ⟨by first | rfl | (simp [errW_none, errW_some] <;> rfl) | (simp [*, errW_none, errW_some] <;> rfl), by repeat (first | (with_reducible first | exact HB.out | apply zA | apply zN | apply zD) | exact HB.out)⟩
 ·
  rw [if_neg c4] at H
  have c4b0 : decide (1048576 < (a1.size : Int)) = false := decide_eq_false c4
  have c4b1 : decide (1048576 < a1.size) = false := decide_eq_false zq4
  clear c4
  by_cases c5 : (a2.size : Int) > 1048576
  ·
   rw [if_pos c5] at H
   have c5b0 : decide (1048576 < (a2.size : Int)) = true := decide_eq_true c5
   have c5b1 : decide (1048576 < a2.size) = true := decide_eq_true zq4
   clear c5
   obtain rfl := Option.some.inj H
   go_enter Tryz.func3, Tryz.ntmps3
   go_wp2
   go_ret
   exact ⟨by first | rfl | (simp [errW_none, errW_some] <;> rfl) | (simp [*, errW_none, errW_some] <;> rfl), by repeat (first | (with_reducible first | exact HB.out | apply zA | apply zN | apply zD) | exact HB.out)⟩
  ·
   rw [if_neg c5] at H
   have c5b0 : decide (1048576 < (a2.size : Int)) = false := decide_eq_false c5
   have c5b1 : decide (1048576 < a2.size) = false := decide_eq_false zq4
   clear c5
   replace H := Option.bind_eq_some_iff.mp H
   obtain ⟨t486, A60, H⟩ := H
   replace H : (if t486 < 0 then (some true) else ((laws_toObjectS.f k l0).bind fun t487 => ((spec_IsAncestor.f k t487 a1 a2).bind fun t490 => ((laws_toObjectS.f k l0).bind fun t491 => ((impl_IsAncestor.f k t491 a1 a2).bind fun t494 => (if (t494 != t490) = true then (some false) else ((laws_toObjectS.f k l0).bind fun t495 => ((laws_eqObjectS.f k t491 t495).bind fun t498 => (if t498 = true then (some true) else (some false)))))))))) = some r := H
   have A6 := zK A60
   clear A60
   by_cases c7 : t486 < 0
   ·
    rw [if_pos c7] at H
    have c7b0 : decide (t486 < 0) = true := decide_eq_true c7
    clear c7
    obtain rfl := Option.some.inj H
    go_enter Tryz.func3, Tryz.ntmps3
    go_wp2_with (first | ((with_reducible refine gate_callee (f := 8) rfl ?_); refine goesL_ (some 19) rfl rfl Tryz.func8 zq3 rfl #[.slice A0 l0.length c0, .int .i64 1048576] rfl zq1 ?_; (with_reducible refine (laws_szObjectS.calls k _ _ l0 1048576 t486 _ ?side1 ?side2 A6.out).mono ?_); (case side1 => repeat (first | exact HR0.out | (with_reducible refine Kd.C_alloc ?_ _) | (with_reducible refine Kd.C_drewN ?_ _) | (with_reducible refine Kd.C_drew ?_))); (case side2 => exact HC0.out); rintro e w8 ⟨rfl, hb⟩; refine ⟨_, rfl, ?_⟩; have n0_ := zK (below_step zq0 hb); clear HB; have HB := n0_; clear n0_; (try clear hb); (try clear hb2); (try clear hk); (try clear hi)))
    go_ret
    exact ⟨by first | rfl | (simp [errW_none, errW_some] <;> rfl) | (simp [*, errW_none, errW_some] <;> rfl), by repeat (first | (with_reducible first | exact HB.out | apply zA | apply zN | apply zD) | exact HB.out)⟩
   ·
    rw [if_neg c7] at H
    have c7b0 : decide (t486 < 0) = false := decide_eq_false c7
    clear c7
    replace H := Option.bind_eq_some_iff.mp H
    obtain ⟨t487, A90, H⟩ := H
    replace H : ((spec_IsAncestor.f k t487 a1 a2).bind fun t490 => ((laws_toObjectS.f k l0).bind fun t491 => ((impl_IsAncestor.f k t491 a1 a2).bind fun t494 => (if (t494 != t490) = true then (some false) else ((laws_toObjectS.f k l0).bind fun t495 => ((laws_eqObjectS.f k t491 t495).bind fun t498 => (if t498 = true then (some true) else (some false)))))))) = some r := H
    have A9 := zK A90
    clear A90
    replace H := Option.bind_eq_some_iff.mp H
    obtain ⟨t490, A100, H⟩ := H
    replace H : ((laws_toObjectS.f k l0).bind fun t491 => ((impl_IsAncestor.f k t491 a1 a2).bind fun t494 => (if (t494 != t490) = true then (some false) else ((laws_toObjectS.f k l0).bind fun t495 => ((laws_eqObjectS.f k t491 t495).bind fun t498 => (if t498 = true then (some true) else (some false))))))) = some r := H
    have A10 := zK A100
    clear A100
    replace H := Option.bind_eq_some_iff.mp H
    obtain ⟨t491, A110, H⟩ := H
    replace H : ((impl_IsAncestor.f k t491 a1 a2).bind fun t494 => (if (t494 != t490) = true then (some false) else ((laws_toObjectS.f k l0).bind fun t495 => ((laws_eqObjectS.f k t491 t495).bind fun t498 => (if t498 = true then (some true) else (some false)))))) = some r := H
    have A11 := zK A110
    clear A110
    replace H := Option.bind_eq_some_iff.mp H
    obtain ⟨t494, A120, H⟩ := H
    replace H : (if (t494 != t490) = true then (some false) else ((laws_toObjectS.f k l0).bind fun t495 => ((laws_eqObjectS.f k t491 t495).bind fun t498 => (if t498 = true then (some true) else (some false))))) = some r := H
    have A12 := zK A120
    clear A120
    by_cases c13 : (t494 != t490) = true
    ·
     rw [if_pos c13] at H
     have c13b0 : (t494 != t490) = true := c13
     (try (have c13b1 : decide (t494 = t490) = false := by simpa using c13))
     (try (have c13b2 : (t494 == t490) = false := by simpa using c13))
     (try (have c13b3 : ¬ (t494 = t490) := by simpa using c13))
     clear c13
     exact absurd ((Option.some.inj H).trans hT_) zq7
    ·
     rw [if_neg c13] at H
     have c13b0 : (t494 != t490) = false := by simpa using c13
     (try (have c13b1 : decide (t494 = t490) = true := by simpa using c13))
     (try (have c13b2 : (t494 == t490) = true := by simpa using c13))
     clear c13
     replace H := Option.bind_eq_some_iff.mp H
     obtain ⟨t495, A210, H⟩ := H
     replace H : ((laws_eqObjectS.f k t491 t495).bind fun t498 => (if t498 = true then (some true) else (some false))) = some r := H
     have A21 := zK A210
     clear A210
     replace H := Option.bind_eq_some_iff.mp H
     obtain ⟨t498, A220, H⟩ := H
     replace H : (if t498 = true then (some true) else (some false)) = some r := H
     have A22 := zK A220
     clear A220
     by_cases c23 : t498 = true
     ·
      subst c23
      have H1 : (some true) = some r := by rw [if_pos rfl] at H; exact H
      clear H
      have H := H1
      clear H1
      obtain rfl := Option.some.inj H
      go_enter Tryz.func3, Tryz.ntmps3
      go_wp2_with (first | ((with_reducible refine gate_callee (f := 8) rfl ?_); refine goesL_ (some 19) rfl rfl Tryz.func8 zq3 rfl #[.slice A0 l0.length c0, .int .i64 1048576] rfl zq1 ?_; (with_reducible refine (laws_szObjectS.calls k _ _ l0 1048576 t486 _ ?side1 ?side2 A6.out).mono ?_); (case side1 => repeat (first | exact HR0.out | (with_reducible refine Kd.C_alloc ?_ _) | (with_reducible refine Kd.C_drewN ?_ _) | (with_reducible refine Kd.C_drew ?_))); (case side2 => exact HC0.out); rintro e w24 ⟨rfl, hb⟩; refine ⟨_, rfl, ?_⟩; have n0_ := zK (below_step zq0 hb); clear HB; have HB := n0_; clear n0_; (try clear hb); (try clear hb2); (try clear hk); (try clear hi)) | ((with_reducible refine gate_callee (f := 10) rfl ?_); refine goesL_ (some 23) rfl rfl Tryz.func10 zq3 rfl #[.slice A0 l0.length c0] rfl zq1 ?_; (with_reducible refine (laws_toObjectS.calls k _ _ l0 t487 _ ?side1 ?side2 A9.out).mono ?_); (case side1 => repeat (first | exact (Kd.C_below HR0.out HB.out) | (with_reducible refine Kd.C_alloc ?_ _) | (with_reducible refine Kd.C_drewN ?_ _) | (with_reducible refine Kd.C_drew ?_))); (case side2 => exact HC0.out); rintro e w25 ⟨v488, rfl, ho0, hb⟩; refine ⟨_, rfl, ?_⟩; have n0_ := zK (Kd.R_lower ho0 (below_size zq0)); have n1_ := zK (below_step zq0 hb); clear HB; have HO489 := n0_; have HB := n1_; clear n0_ n1_; (try clear hb); (try clear hb2); (try clear hk); (try clear hi); (try clear ho0); obtain ⟨Ao26, co26, eo26⟩ := Kd.R_slice HO489.out; subst eo26) | ((with_reducible refine gate_callee (f := 9) rfl ?_); refine goesL_ (some 26) rfl rfl Tryz.func9 zq3 rfl #[.slice Ao26 t487.length co26, .string a1, .string a2] rfl zq1 ?_; (with_reducible refine (spec_IsAncestor.calls k _ _ t487 a1 a2 t490 _ ?side1 ?side2 A10.out).mono ?_); (case side1 => repeat (first | exact (Kd.R_reads' HO489.out).2.2 | (with_reducible refine Kd.C_alloc ?_ _) | (with_reducible refine Kd.C_drewN ?_ _) | (with_reducible refine Kd.C_drew ?_))); (case side2 => exact (Kd.R_reads' HO489.out).2.1); rintro e w27 ⟨rfl, hb⟩; refine ⟨_, rfl, ?_⟩; have n0_ := zK (Kd.R_below zq11 hb); have n1_ := zK (below_step zq0 hb); clear HO489; clear HB; have HO489 := n0_; have HB := n1_; clear n0_ n1_; (try clear hb); (try clear hb2); (try clear hk); (try clear hi)) | ((with_reducible refine gate_callee (f := 10) rfl ?_); refine goesL_ (some 28) rfl rfl Tryz.func10 zq3 rfl #[.slice A0 l0.length c0] rfl zq1 ?_; (with_reducible refine (laws_toObjectS.calls k _ _ l0 t491 _ ?side1 ?side2 A11.out).mono ?_); (case side1 => repeat (first | exact (Kd.C_below HR0.out HB.out) | (with_reducible refine Kd.C_alloc ?_ _) | (with_reducible refine Kd.C_drewN ?_ _) | (with_reducible refine Kd.C_drew ?_))); (case side2 => exact HC0.out); rintro e w28 ⟨v492, rfl, ho0, hb⟩; refine ⟨_, rfl, ?_⟩; have n0_ := zK (Kd.R_elder' zq11 (Kd.R_base ho0) hb); have n1_ := zK (Kd.R_lower (Kd.R_new' ho0 (Kd.R_lt zq11)) (below_size zq0)); have n2_ := zK (below_step zq0 hb); clear HO489; clear HB; have HO489 := n0_; have HO493 := n1_; have HB := n2_; clear n0_ n1_ n2_; (try clear hb); (try clear hb2); (try clear hk); (try clear hi); (try clear ho0); obtain ⟨Ao29, co29, eo29⟩ := Kd.R_slice HO493.out; subst eo29) | ((with_reducible refine gate_callee (f := 11) rfl ?_); refine goesL_ (some 32) rfl rfl Tryz.func11 zq3 rfl #[.slice Ao29 t491.length co29, .string a1, .string a2] rfl zq1 ?_; (with_reducible refine (impl_IsAncestor.calls k _ _ t491 a1 a2 t494 _ ?side1 ?side2 (Gt.below HG.out zq0) A12.out).mono ?_); (case side1 => repeat (first | exact (Kd.R_reads' HO493.out).2.2 | (with_reducible refine Kd.C_alloc ?_ _) | (with_reducible refine Kd.C_drewN ?_ _) | (with_reducible refine Kd.C_drew ?_))); (case side2 => exact (Kd.R_reads' HO493.out).2.1); rintro e w30 ⟨rfl, hb⟩; refine ⟨_, rfl, ?_⟩; have n0_ := zK (Kd.R_below zq11 hb); have n1_ := zK (Kd.R_below (by (with_reducible repeat (first | apply zR | apply zV | apply zW)); exact HO493.out) hb); have n2_ := zK (below_step zq0 hb); clear HO489; clear HO493; clear HB; have HO489 := n0_; have HO493 := n1_; have HB := n2_; clear n0_ n1_ n2_; (try clear hb); (try clear hb2); (try clear hk); (try clear hi)) | ((with_reducible refine gate_callee (f := 10) rfl ?_); refine goesL_ (some 38) rfl rfl Tryz.func10 zq3 rfl #[.slice A0 l0.length c0] rfl zq1 ?_; (with_reducible refine (laws_toObjectS.calls k _ _ l0 t495 _ ?side1 ?side2 A21.out).mono ?_); (case side1 => repeat (first | exact (Kd.C_below HR0.out HB.out) | (with_reducible refine Kd.C_alloc ?_ _) | (with_reducible refine Kd.C_drewN ?_ _) | (with_reducible refine Kd.C_drew ?_))); (case side2 => exact HC0.out); rintro e w31 ⟨v496, rfl, ho0, hb⟩; refine ⟨_, rfl, ?_⟩; have n0_ := zK (Kd.R_elder' zq11 (Kd.R_base ho0) hb); have n1_ := zK (Kd.R_elder' (by (with_reducible repeat (first | apply zR | apply zV | apply zW)); exact HO493.out) (Kd.R_base ho0) hb); have n2_ := zK (Kd.R_lower (Kd.R_new' (Kd.R_new' ho0 (Kd.R_lt zq11)) (Kd.R_lt (by (with_reducible repeat (first | apply zR | apply zV | apply zW)); exact HO493.out))) (below_size zq0)); have n3_ := zK (below_step zq0 hb); clear HO489; clear HO493; clear HB; have HO489 := n0_; have HO493 := n1_; have HO497 := n2_; have HB := n3_; clear n0_ n1_ n2_ n3_; (try clear hb); (try clear hb2); (try clear hk); (try clear hi); (try clear ho0); obtain ⟨Ao32, co32, eo32⟩ := Kd.R_slice HO497.out; subst eo32) | ((with_reducible refine gate_callee (f := 12) rfl ?_); refine goesL_ (some 39) rfl rfl Tryz.func12 zq3 rfl #[.slice Ao29 t491.length co29, .slice Ao32 t495.length co32] rfl zq1 ?_; (with_reducible refine (laws_eqObjectS.calls k _ _ t491 _ _ t495 true _ ?side1 ?side2 ?side3 ?side4 A22.out).mono ?_); (case side1 => repeat (first | exact (Kd.R_reads' HO493.out).2.2 | (with_reducible refine Kd.C_alloc ?_ _) | (with_reducible refine Kd.C_drewN ?_ _) | (with_reducible refine Kd.C_drew ?_))); (case side2 => exact (Kd.R_reads' HO493.out).2.1); (case side3 => repeat (first | exact (Kd.R_reads' HO497.out).2.2 | (with_reducible refine Kd.C_alloc ?_ _) | (with_reducible refine Kd.C_drewN ?_ _) | (with_reducible refine Kd.C_drew ?_))); (case side4 => exact (Kd.R_reads' HO497.out).2.1); rintro e w33 ⟨rfl, hb⟩; refine ⟨_, rfl, ?_⟩; have n0_ := zK (Kd.R_below zq11 hb); have n1_ := zK (Kd.R_below (by (with_reducible repeat (first | apply zR | apply zV | apply zW)); exact HO493.out) hb); have n2_ := zK (Kd.R_below (by (with_reducible repeat (first | apply zR | apply zV | apply zW)); exact HO497.out) hb); have n3_ := zK (below_step zq0 hb); clear HO489; clear HO493; clear HO497; clear HB; have HO489 := n0_; have HO493 := n1_; have HO497 := n2_; have HB := n3_; clear n0_ n1_ n2_ n3_; (try clear hb); (try clear hb2); (try clear hk); (try clear hi)))
      go_ret
      exact ⟨by first | rfl | (simp [errW_none, errW_some] <;> rfl) | (simp [*, errW_none, errW_some] <;> rfl), by repeat (first | (with_reducible first | exact HB.out | apply zA | apply zN | apply zD) | exact HB.out)⟩
     ·
      replace c23 := Bool.eq_false_iff.mpr c23
      subst c23
      have H1 : (some false) = some r := by rw [if_neg (show ¬ (false = true) by decide)] at H; exact H
      clear H
      have H := H1
      clear H1
      exact absurd ((Option.some.inj H).trans hT_) zq7

end Go.Proofs.YtpnoghcdfbmpoaaGreatDoor.PX

namespace Go.Proofs.YtpnoghcdfbmpoaaGreatDoorX
open Go Go.RowKit Go.Proofs.YtpnoghcdfbmpoaaGreatDoorW.PrintWords Go.Proofs.YtpnoghcdfbmpoaaGreatDoor.PX
open Go.Proofs.YtpnoghcdfbmpoaaGreatDoor.PX.X (okO cmI cmI_all cmI_eq cmS cmS_eq cmS_all chkC codeC parsC sortB sortP rdS drop_getS)
set_option linter.unusedVariables false
theorem hist_l0 (l : List IObj) (h : okO l) (P : List ByteArray) (hP : P.length ≤ 1048576) : ∀ (d i : Nat), i + d = P.length → ∀ k, 9000001 + d < k → impl_historyOf.l0 k l P P (P.length : Int) (i : Int) = some (if chkC (cmI l) (P.drop i) = 0 then (P, 0) else ([], chkC (cmI l) (P.drop i)))
  | 0, i, hi, k, hk => by
    obtain ⟨k, rfl⟩ : ∃ m, k = m + 1 := ⟨k - 1, by omega⟩
    rw [impl_historyOf.l0, if_neg zq4, List.drop_eq_nil_of_le zq4]
    rfl
  | d + 1, i, hi, k, hk => by
    obtain ⟨k, rfl⟩ : ∃ m, k = m + 1 := ⟨k - 1, by omega⟩
    have hw : wrap64 ((i : Int) + 1) = ((i + 1 : Nat) : Int) := (wrap_in zq4 zq4).trans zq4
    rw [impl_historyOf.l0, if_pos zq4, if_pos zq4, if_pos zq4, rdS, cmI_all h zq4, Option.bind_some, hw, hist_l0 l h P hP d (i + 1) zq4 k zq4, drop_getS P i zq4]
    show _ = some (if (if codeC (cmI l (P.getD i ByteArray.empty)) = 0 then chkC (cmI l) (P.drop (i + 1)) else codeC (cmI l (P.getD i ByteArray.empty))) = 0 then (P, 0) else ([], (if codeC (cmI l (P.getD i ByteArray.empty)) = 0 then chkC (cmI l) (P.drop (i + 1)) else codeC (cmI l (P.getD i ByteArray.empty)))))
    by_cases hz : codeC (cmI l (P.getD i ByteArray.empty)) = 0
    · rw [if_pos hz, if_pos (show (cmI l (P.getD i ByteArray.empty)).2.2.2.2 = 0 from hz)]
    · rw [if_neg hz, if_neg (show ¬ (cmI l (P.getD i ByteArray.empty)).2.2.2.2 = 0 from hz), if_neg hz]
      rfl
/-- All names that can be got to: the name itself, and the parents of the store's commits. -/
noncomputable def namesU (l : List IObj) (id : ByteArray) : List ByteArray := id :: l.flatMap fun o => (comV l o.f0).2.1
theorem com_none (l : List IObj) (x : ByteArray) (h : ∀ o ∈ l, o.f0 ≠ x) : (comV l x).2.1 = [] := by
  have hg : getV l 3 x = none := by
    unfold getV
    cases hx : l[cnt (lessK oId x) l]? with
    | none => rfl
    | some o => 
      simp only
      rw [if_neg (h o (List.mem_of_getElem? hx))]
  unfold comV
  rw [hg]
theorem com_names (l : List IObj) (id x p : ByteArray) (hp : p ∈ (comV l x).2.1) : p ∈ namesU l id := by
  by_cases h : ∃ o ∈ l, o.f0 = x
  · obtain ⟨o, ho, rfl⟩ := h
    exact List.mem_cons_of_mem _ (List.mem_flatMap.2 ⟨o, ho, hp⟩)
  · rw [com_none l x (fun o ho z => h ⟨o, ho, z⟩)] at hp
    cases hp
theorem namesU_len (l : List IObj) (id : ByteArray) (hl : l.length ≤ 200) : (namesU l id).length ≤ 601 := by
  have : ∀ m : List IObj, (m.flatMap fun o => (comV l o.f0).2.1).length ≤ 3 * m.length := by
    intro m
    induction m with
    | nil => exact Nat.le_refl _
    | cons o m ih =>
      rw [List.flatMap_cons, List.length_append, List.length_cons]
      have := comV_len l o.f0
      omega
  have := this l
  unfold namesU
  rw [List.length_cons]
  omega
open Go.Proofs.YtpnoghcdfbmpoaaGreatDoor.PX.X (okO cmI cmI_all cmI_eq cmS cmS_eq cmS_all chkC codeC parsC sortB sortP rdS drop_getS histF histS reachF reachI seenO addNew sync fold_perm nodup_len sortB_sortP oAt_get)
set_option linter.unusedVariables false
theorem ok_of_store {l : List IObj} (hs : oSmall l) (h : storeV l = 0) : okO l := by
  obtain ⟨h1, _, h3⟩ := storeV_ok h
  refine ⟨h1, hs, fun i hi j hj hij => ?_⟩
  have ei : l[i]? = some l[i] := List.getElem?_eq_getElem hi
  have ej : l[j]? = some l[j] := List.getElem?_eq_getElem hj
  rw [oAt_get ei, oAt_get ej]
  exact h3 i j _ _ hij ei ej
theorem com_five (l : List IObj) (x p : ByteArray) (hp : p ∈ (comV l x).2.1) : p.size = 5 := by
  revert hp
  unfold comV
  cases getV l 3 x with
  | none => intro hp; cases hp
  | some D =>
    simp only
    split
    · rename_i h
      intro hp
      obtain ⟨_, u, hr, _⟩ := h
      have := (hr.ids p hp).2
      simpa using this
    · intro hp; cases hp
/-- All names that can be got to from some. -/
noncomputable def namesT (l : List IObj) (T : List ByteArray) : List ByteArray := T ++ l.flatMap fun o => (comV l o.f0).2.1
theorem names_com (l : List IObj) (T : List ByteArray) (x p : ByteArray) (hp : p ∈ (comV l x).2.1) : p ∈ namesT l T := by
  rcases List.mem_cons.1 (com_names l p x p hp) with h | h
  · by_cases hx : ∃ o ∈ l, o.f0 = x
    · obtain ⟨o, ho, rfl⟩ := hx
      exact List.mem_append.2 (.inr (List.mem_flatMap.2 ⟨o, ho, hp⟩))
    · rw [com_none l x (fun o ho z => hx ⟨o, ho, z⟩)] at hp
      cases hp
  · exact List.mem_append.2 (.inr h)
theorem names_len (l : List IObj) (T : List ByteArray) (hl : l.length ≤ 200) : (namesT l T).length ≤ T.length + 600 := by
  have := namesU_len l ⟨#[]⟩ hl
  unfold namesU at this
  unfold namesT
  rw [List.length_cons] at this
  rw [List.length_append]
  omega
theorem names_size (l : List IObj) (T : List ByteArray) (hT : ∀ x ∈ T, x.size ≤ 9223372036854775807) (p : ByteArray) (hp : p ∈ namesT l T) : p.size ≤ 9223372036854775807 := by
  rcases List.mem_append.1 hp with h | h
  · exact hT p h
  · obtain ⟨o, _, h⟩ := List.mem_flatMap.1 h
    have := com_five l o.f0 p h
    omega
theorem reach_all (l : List IObj) (h : okO l) (T : List ByteArray) (hT : T.length ≤ 100) (hs : ∀ x ∈ T, x.size ≤ 9223372036854775807) : ∃ R, R.Nodup ∧ (∀ x ∈ R, x ∈ namesT l T) ∧ ∀ k, 9000000 < k → reachI (comV l) k [] T = some R ∧ seenO (comV l) k 0 (addNew [] T) = some R := by
  have hN := names_len l T h.1
  have key := sync (comV l) (namesT l T) (fun x p hp => names_com l T x p hp) (fun x => comV_len l x) (names_size l T hs) 700 (fun L hn hL => by
    have := nodup_len L _ hn hL
    omega) zq4 3000 [] T zq4 List.nodup_nil (fun _ h => by cases h) (fun x hx => List.mem_append.2 (.inl hx)) (by simp only [List.length_nil]; omega)
  obtain ⟨R, h1, h2, h3, h4⟩ := key 3001 3001 zq4 zq4
  refine ⟨R, h1, h2, fun k hk => ⟨?_, ?_⟩⟩
  · obtain ⟨R', _, _, q3, q4⟩ := key k 3001 zq4 zq4
    rw [q3]
    exact q4.symm.trans h4
  · obtain ⟨R', _, _, q3, q4⟩ := key 3001 k zq4 zq4
    rw [show seenO (comV l) k 0 (addNew [] T) = some R' from q4]
    exact q3.symm.trans h3
theorem reached_all (l : List IObj) (h : okO l) (T : List ByteArray) (hT : T.length ≤ 100) (hs : ∀ x ∈ T, x.size ≤ 9223372036854775807) : ∃ R, R.Nodup ∧ (∀ x ∈ R, x ∈ namesT l T) ∧ (∀ k, 9000000 < k → impl_reached.f k l T = some (sortP R)) ∧ ∀ k, 9000000 < k → seenO (comV l) k 0 (addNew [] T) = some R := by
  obtain ⟨R, h1, h2, h3⟩ := reach_all l h T hT hs
  refine ⟨R, h1, h2, fun k hk => ?_, fun k hk => (h3 k hk).2⟩
  have hc2 : cmI l = comV l := funext (cmI_eq h)
  unfold impl_reached.f reachF
  rw [if_pos ⟨⟨hk, h⟩, by omega⟩, hc2, (h3 k hk).1, ← sortB_sortP R h1]
  rfl
theorem sort_perm (R : List ByteArray) (hn : R.Nodup) : (sortP R).Perm R := by
  have := (fold_perm R [] hn (fun _ _ h => by cases h) List.Pairwise.nil).1
  rwa [List.append_nil] at this
theorem hist_all (l : List IObj) (h : okO l) (id : ByteArray) (hs : id.size ≤ 9223372036854775807) : ∃ V : List ByteArray × Int, (∀ k, 9000300 < k → impl_historyOf.f k l id = some V ∧ spec_l9History.f k l id = some V) ∧ V.1.length ≤ 100 ∧ V.1.Nodup ∧ (¬ V.2 = 0 → V.1 = []) ∧ ∀ x ∈ V.1, x.size ≤ 9223372036854775807 := by
  have hs1 : ∀ x ∈ [id], x.size ≤ 9223372036854775807 := fun x hx => List.mem_singleton.1 hx ▸ hs
  obtain ⟨R, h1, h2, h3, h4⟩ := reached_all l h [id] zq9 hs1
  have hc1 : cmS l = comV l := funext (cmS_eq h)
  have hc2 : cmI l = comV l := funext (cmI_eq h)
  have hp := sort_perm R h1
  have hlen := hp.length_eq
  refine ⟨if 100 < R.length then ([], 2) else if chkC (comV l) (sortP R) = 0 then (sortP R, 0) else ([], chkC (comV l) (sortP R)), fun k hk => ⟨?_, ?_⟩, ?_, ?_, ?_, ?_⟩
  · unfold impl_historyOf.f
    rw [h3 k zq4, Option.bind_some]
    by_cases hl : 100 < R.length
    · rw [if_pos hl]
      repeat' first
        | rw [if_pos zq4]
        | rfl
    · rw [if_neg hl, if_neg zq4]
      have := hist_l0 l h (sortP R) zq4 (sortP R).length 0 zq4 k zq4
      rw [List.drop_zero, hc2] at this
      exact this
  · unfold spec_l9History.f histF
    rw [if_pos ⟨by omega, h⟩]
    unfold histS
    rw [hc1, show seenO (comV l) k 0 [id] = some R from h4 k zq4, Option.bind_some]
    by_cases hl : 100 < R.length
    · rw [if_pos hl, if_pos hl]
    · rw [if_neg hl, if_neg hl]
      by_cases hc : chkC (comV l) (sortP R) = 0
      · rw [if_pos hc, if_pos hc]
      · rw [if_neg hc, if_neg hc]
  · split
    · exact Nat.zero_le _
    · split
      · show (sortP R).length ≤ 100
        omega
      · exact Nat.zero_le _
  · split
    · exact List.nodup_nil
    · split
      · exact hp.symm.nodup h1
      · exact List.nodup_nil
  · split
    · intro _; rfl
    · split
      · intro z; exact absurd rfl z
      · intro _; rfl
  · intro x hx
    have : x ∈ R := by
      revert hx
      split
      · intro hx; cases hx
      · split
        · intro hx; exact hp.mem_iff.1 hx
        · intro hx; cases hx
    exact names_size l [id] hs1 x (h2 x this)
open Go.Proofs.YtpnoghcdfbmpoaaGreatDoor.PX.X (okO hasB hasS hasB_mem)
set_option linter.unusedVariables false
set_option linter.unusedSimpArgs false
theorem anc_all (l : List IObj) (h : okO l) (a b : ByteArray) (hb : b.size ≤ 9223372036854775807) : ∃ v : Bool, ∀ k, 9000300 < k → impl_isAncestor.f k l a b = some v ∧ spec_l9Ancestor.f k l a b = some v := by
  obtain ⟨V, hV, hl, _⟩ := hist_all l h b hb
  refine ⟨if V.2 = 0 then hasB V.1 a else false, fun k hk => ⟨?_, ?_⟩⟩
  · unfold impl_isAncestor.f
    rw [(hV k hk).1, Option.bind_some]
    by_cases hc : V.2 = 0
    · rw [if_pos hc, if_pos hc]
      obtain ⟨bv, h1, h2⟩ := contains_tells V.1 a zq4 k zq4
      rw [h1, Bool.eq_iff_iff.2 (h2.trans (hasB_mem V.1 a).symm)]
      rfl
    · rw [if_neg hc, if_neg hc]
  · unfold spec_l9Ancestor.f
    rw [(hV k hk).2, Option.bind_some]
    by_cases hc : V.2 = 0
    · rw [if_pos hc, if_pos hc]
      rw [hasS V.1 a zq4 k zq4]
      rfl
    · rw [if_neg hc, if_neg hc]
theorem anc_same (l : List IObj) (hs : oSmall l) (a b : ByteArray) (hb : b.size ≤ 9223372036854775807) : ∃ v : Bool, ∀ k, 9000300 < k → impl_IsAncestor.f k l a b = some v ∧ spec_IsAncestor.f k l a b = some v := by
  by_cases h : storeV l = 0
  · obtain ⟨v, hv⟩ := anc_all l (ok_of_store hs h) a b hb
    refine ⟨v, fun k hk => ⟨?_, ?_⟩⟩
    · unfold impl_IsAncestor.f
      rw [impl_store l hs k zq4, Option.bind_some, if_pos h, (hv k hk).1]
      rfl
    · unfold spec_IsAncestor.f
      rw [spec_store l hs k zq4, Option.bind_some, if_pos h, (hv k hk).2]
      rfl
  · refine ⟨false, fun k hk => ⟨?_, ?_⟩⟩
    · unfold impl_IsAncestor.f
      rw [impl_store l hs k zq4, Option.bind_some, if_neg h]
    · unfold spec_IsAncestor.f
      rw [spec_store l hs k zq4, Option.bind_some, if_neg h]
theorem isAncestor_pure (l : List LObj) (a b : ByteArray) (hl1 : l.length * 40 ≤ 140737488351232) (hl2 : ∀ x ∈ l, x.f0.size ≤ 140737488351232 ∧ (Go.Lit.int .i64 x.f1).wf = true ∧ x.f2.size ≤ 140737488351232) (ha : a.size ≤ 140737488351232) (hb : b.size ≤ 140737488351232) : ∃ k, laws_FnExactIsAncestor.f k l a b = some true := by
  obtain ⟨K, hK⟩ : ∃ K, K = l.length + 9000400 := ⟨_, rfl⟩
  refine ⟨K + 1, ?_⟩
  unfold laws_FnExactIsAncestor.f
  by_cases ca : (a.size : Int) > 1048576
  · rw [if_pos ca]
  rw [if_neg ca]
  by_cases cd : (b.size : Int) > 1048576
  · rw [if_pos cd]
  rw [if_neg cd]
  obtain ⟨r, hr, hle, hq⟩ := szObjectS_tells l zq4 (fun x hx => ⟨(hl2 x hx).1, (hl2 x hx).2.2⟩) 1048576 zq7 zq7 (K + 1) zq4
  rw [hr, Option.bind_some]
  by_cases c : r < 0
  · rw [if_pos c]
  obtain ⟨hn, hs⟩ := hq zq4
  have hm : (l.map objConv).length = l.length := List.length_map _
  obtain ⟨v, hV⟩ := anc_same (l.map objConv) (oconvs hs) a b zq4
  have e1 := toObjectS_tells l hn (K + 1) zq4
  have e2 := (hV (K + 1) zq4).2
  have e3 := (hV (K + 1) zq4).1
  have e4 := eqObjectS_same (l.map objConv) zq4 (K + 1) zq4
  rw [if_neg c]
  simp only [e1, e2, e3, e4, Option.bind_some, if_true, bne_self_eq_false, Bool.false_eq_true, if_false]
end Go.Proofs.YtpnoghcdfbmpoaaGreatDoorX
