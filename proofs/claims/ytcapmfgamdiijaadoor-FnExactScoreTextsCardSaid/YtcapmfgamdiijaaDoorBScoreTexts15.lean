/- Texts of this claim set one behind another by wip/bundle.py: PXf74, PXf16, PXf3, XLawScoreTexts. -/
import Derived.Test.YtcapmfgamdiijaaDoorBScoreTexts9
import Derived.Test.YtcapmfgamdiijaaDoorBScoreTexts14
import Derived.Test.YtcapmfgamdiijaaDoorBScoreTexts13
import Derived.Test.YtcapmfgamdiijaaDoorBScoreTexts11
import Derived.Test.YtcapmfgamdiijaaDoorBScoreTexts1
import Derived.Test.YtcapmfgamdiijaaDoorBScoreTexts10
namespace Go.Proofs.YtcapmfgamdiijaaDoor.PX
open Go.RowKit Go.Proofs.YtcapmfgamdiijaaDoorW.PrintWords Go.Proofs.YtcapmfgamdiijaaDoorW.PrintLast Go.Proofs.YtcapmfgamdiijaaDoorW.PrintMore
attribute [local go_sem] max2_int min2_int max_two min_two max_three min_three max_four min_four   -- for this text's walks alone
set_option linter.unusedVariables false
set_option linter.unusedSimpArgs false

/-! ### impl_score: function 74 -/
def impl_score.j0 : Nat → ByteArray → ByteArray → Bool → Option (Int)
 | 0, _, _, _ => none
 | k + 1, x0, x1, x11 => if x11 = true then (some 0) else ((impl_linesOf.f x0).bind fun t967 => ((impl_linesOf.f x1).bind fun t970 => ((impl_commons.f t967 t970).bind fun t973 => (if 0 < (t973.length : Int) then (if 0 < ((rd_L17 t973 0).length : Int) then (if (wrap64 ((t967.length : Int) + (t970.length : Int))) = 0 then (none) else (some (wrap64 (Int.tdiv (wrap64 ((wrap64 (2 * (rd (rd_L17 t973 0) 0))) * 1000)) (wrap64 ((t967.length : Int) + (t970.length : Int))))))) else (none)) else (none)))))
def impl_score.f (k : Nat) (a0 : ByteArray) (a1 : ByteArray) : Option (Int) := if a0.toList = a1.toList then (some 1000) else ((impl_IsBinary.f a0).bind fun t965 => (if t965 = true then (impl_score.j0 k a0 a1 true) else ((impl_IsBinary.f a1).bind fun t966 => (impl_score.j0 k a0 a1 t966))))
theorem impl_score.mono_l : ∀ k, (∀ y0 y1 y2, LeO (impl_score.j0 k y0 y1 y2) (impl_score.j0 (k + 1) y0 y1 y2))
 | 0 => fun _ _ _ r h => by simp [impl_score.j0] at h
 | k + 1 => by
  have ih0 := impl_score.mono_l k
  ·
   intro y0 y1 y2
   unfold impl_score.j0
   repeat' first
   | (with_reducible exact ih0 _ _ _)
   | (with_reducible exact LeO.refl _)
   | (with_reducible exact LeO.none _)
   | (with_reducible refine LeO.ite ?_ ?_)
   | (with_reducible refine LeO.bind ?_ (fun _ => ?_))
   | exact ih0 _ _ _
   | exact LeO.none _
   | refine LeO.ite ?_ ?_
   | refine LeO.bind ?_ (fun _ => ?_)
theorem impl_score.mono : ∀ a0 a1 k, LeO (impl_score.f k a0 a1) (impl_score.f (k + 1) a0 a1) := by
 intro a0 a1 k
 have ih0 := impl_score.mono_l k
 unfold impl_score.f
 repeat' first
   | (with_reducible exact ih0 _ _ _)
   | (with_reducible exact LeO.refl _)
   | (with_reducible exact LeO.none _)
   | (with_reducible refine LeO.ite ?_ ?_)
   | (with_reducible refine LeO.bind ?_ (fun _ => ?_))
   | exact ih0 _ _ _
   | exact LeO.none _
   | refine LeO.ite ?_ ?_
   | refine LeO.bind ?_ (fun _ => ?_)
set_option maxHeartbeats 8000000 in
set_option maxRecDepth 100000 in
theorem impl_score.calls (k : Nat) (a0 : ByteArray) (a1 : ByteArray) (r : Int) (w : World) (h : impl_score.f k a0 a1 = some r) :
  Calls Tryd.prog 74 #[.string a0, .string a1] w fun e w' => e = .returned (.int .i64 r) ∧ Below w.heap.size w w' := by
 have HB := zK (Below.refl w.heap.size w)
 have H : (if a0.toList = a1.toList then (some 1000) else ((impl_IsBinary.f a0).bind fun t965 => (if t965 = true then (impl_score.j0 k a0 a1 true) else ((impl_IsBinary.f a1).bind fun t966 => (impl_score.j0 k a0 a1 t966))))) = some r := h
 clear h
 by_cases c3 : a0.toList = a1.toList
 ·
  rw [if_pos c3] at H
  have c3b0 : (a0.toList == a1.toList) = true := beq_iff_eq.mpr c3
  have c3b1 : (a0.toList != a1.toList) = false := bne_eq_false_iff_eq.mpr c3
  clear c3
  obtain rfl := Option.some.inj H
  go_enter Tryd.func74, Tryd.ntmps74
  go_wp2
  go_ret
  exact ⟨by first | rfl | (simp [errW_none, errW_some] <;> rfl) | (simp [*, errW_none, errW_some] <;> rfl), by repeat (first | (with_reducible first | exact HB.out | apply zA | apply zN | apply zD) | exact HB.out)⟩
 ·
  rw [if_neg c3] at H
  have c3b0 : (a0.toList == a1.toList) = false := beq_eq_false_iff_ne.mpr c3
  have c3b1 : (a0.toList != a1.toList) = true := bne_iff_ne.mpr c3
  have HC4 := zK H
  clear H
  go_enter Tryd.func74, Tryd.ntmps74
  go_upto_region 3 with (fail)
  go_cut [11] (fun v11 wc => ∃ (kq : Nat) (x11_3 : Bool), v11 = .bool x11_3 ∧ Aside0 (impl_score.j0 kq a0 a1 x11_3 = some r) ∧ Aside0 (kq ≤ k) ∧ Aside0 (Below w.heap.size w wc))
  case first =>
   have H := HC4.out
   clear HC4
   replace H := Option.bind_eq_some_iff.mp H
   obtain ⟨t965, A50, H⟩ := H
   replace H : (if t965 = true then (impl_score.j0 k a0 a1 true) else ((impl_IsBinary.f a1).bind fun t966 => (impl_score.j0 k a0 a1 t966))) = some r := H
   have A5 := zK A50
   clear A50
   by_cases c6 : t965 = true
   ·
    subst c6
    have H1 : (impl_score.j0 k a0 a1 true) = some r := by rw [if_pos rfl] at H; exact H
    clear H
    have H := H1
    clear H1
    have H' := zK H
    clear H
    go_wp2_with (first | ((with_reducible refine gate_callee (f := 138) rfl ?_); refine goesL_ (some 13) rfl rfl Tryd.func138 (by kernel_rfl) rfl #[.string a0] rfl (by (try simp only [List.map_toArray, List.map_cons, List.map_nil]); first | done | rfl | (simp only [List.length_drop, List.length_take]; rfl)) ?_; (with_reducible refine (impl_IsBinary.calls a0 true _ A5.out).mono ?_); rintro e w' ⟨rfl, ⟨nd, rfl⟩⟩; refine ⟨_, rfl, ?_⟩))
    go_meet
    case rel => exact ⟨_, (true), (by first | rfl | (simp; done) | (simp [*]; done)), H', ⟨by first | omega | exact Nat.le_refl _⟩, ⟨by repeat (first | (with_reducible first | exact HB.out | apply zA | apply zN | apply zD) | exact HB.out)⟩⟩
   ·
    replace c6 := Bool.eq_false_iff.mpr c6
    subst c6
    have H1 : ((impl_IsBinary.f a1).bind fun t966 => (impl_score.j0 k a0 a1 t966)) = some r := by rw [if_neg (show ¬ (false = true) by decide)] at H; exact H
    clear H
    have H := H1
    clear H1
    replace H := Option.bind_eq_some_iff.mp H
    obtain ⟨t966, A70, H⟩ := H
    replace H : (impl_score.j0 k a0 a1 t966) = some r := H
    have A7 := zK A70
    clear A70
    have H' := zK H
    clear H
    go_wp2_with (first | ((with_reducible refine gate_callee (f := 138) rfl ?_); refine goesL_ (some 13) rfl rfl Tryd.func138 (by kernel_rfl) rfl #[.string a0] rfl (by (try simp only [List.map_toArray, List.map_cons, List.map_nil]); first | done | rfl | (simp only [List.length_drop, List.length_take]; rfl)) ?_; (with_reducible refine (impl_IsBinary.calls a0 false _ A5.out).mono ?_); rintro e w' ⟨rfl, ⟨nd, rfl⟩⟩; refine ⟨_, rfl, ?_⟩) | (go_at_call 138; (with_reducible refine (impl_IsBinary.calls a1 t966 _ A7.out).mono ?_); rintro e w' ⟨rfl, ⟨nd, rfl⟩⟩))
    go_meet
    case rel => exact ⟨_, (t966), (by first | rfl | (simp; done) | (simp [*]; done)), H', ⟨by first | omega | exact Nat.le_refl _⟩, ⟨by repeat (first | (with_reducible first | exact HB.out | apply zA | apply zN | apply zD) | exact HB.out)⟩⟩
  case rest =>
   clear HC4
   try clear c1
   try clear p2
   try clear c3
   try clear c3b0
   try clear c3b1
   try clear c6
   try clear c7
   obtain ⟨kq, x11_3, rfl, HA, HJ3, HB⟩ := hcut
   cases kq with
   | zero => exact absurd HA.out (by simp [impl_score.j0])
   | succ kj3 =>
    have H := HA.out
    clear HA
    simp only [impl_score.j0] at H
    by_cases c8 : x11_3 = true
    ·
     subst c8
     have H1 : (some 0) = some r := by rw [if_pos rfl] at H; exact H
     clear H
     have H := H1
     clear H1
     obtain rfl := Option.some.inj H
     go_wp2
     go_ret
     exact ⟨by first | rfl | (simp [errW_none, errW_some] <;> rfl) | (simp [*, errW_none, errW_some] <;> rfl), by repeat (first | (with_reducible first | exact HB.out | apply zA | apply zN | apply zD) | exact HB.out)⟩
    ·
     replace c8 := Bool.eq_false_iff.mpr c8
     subst c8
     have H1 : ((impl_linesOf.f a0).bind fun t967 => ((impl_linesOf.f a1).bind fun t970 => ((impl_commons.f t967 t970).bind fun t973 => (if 0 < (t973.length : Int) then (if 0 < ((rd_L17 t973 0).length : Int) then (if (wrap64 ((t967.length : Int) + (t970.length : Int))) = 0 then (none) else (some (wrap64 (Int.tdiv (wrap64 ((wrap64 (2 * (rd (rd_L17 t973 0) 0))) * 1000)) (wrap64 ((t967.length : Int) + (t970.length : Int))))))) else (none)) else (none))))) = some r := by rw [if_neg (show ¬ (false = true) by decide)] at H; exact H
     clear H
     have H := H1
     clear H1
     replace H := Option.bind_eq_some_iff.mp H
     obtain ⟨t967, A90, H⟩ := H
     replace H : ((impl_linesOf.f a1).bind fun t970 => ((impl_commons.f t967 t970).bind fun t973 => (if 0 < (t973.length : Int) then (if 0 < ((rd_L17 t973 0).length : Int) then (if (wrap64 ((t967.length : Int) + (t970.length : Int))) = 0 then (none) else (some (wrap64 (Int.tdiv (wrap64 ((wrap64 (2 * (rd (rd_L17 t973 0) 0))) * 1000)) (wrap64 ((t967.length : Int) + (t970.length : Int))))))) else (none)) else (none)))) = some r := H
     have A9 := zK A90
     clear A90
     replace H := Option.bind_eq_some_iff.mp H
     obtain ⟨t970, A100, H⟩ := H
     replace H : ((impl_commons.f t967 t970).bind fun t973 => (if 0 < (t973.length : Int) then (if 0 < ((rd_L17 t973 0).length : Int) then (if (wrap64 ((t967.length : Int) + (t970.length : Int))) = 0 then (none) else (some (wrap64 (Int.tdiv (wrap64 ((wrap64 (2 * (rd (rd_L17 t973 0) 0))) * 1000)) (wrap64 ((t967.length : Int) + (t970.length : Int))))))) else (none)) else (none))) = some r := H
     have A10 := zK A100
     clear A100
     replace H := Option.bind_eq_some_iff.mp H
     obtain ⟨t973, A110, H⟩ := H
     replace H : (if 0 < (t973.length : Int) then (if 0 < ((rd_L17 t973 0).length : Int) then (if (wrap64 ((t967.length : Int) + (t970.length : Int))) = 0 then (none) else (some (wrap64 (Int.tdiv (wrap64 ((wrap64 (2 * (rd (rd_L17 t973 0) 0))) * 1000)) (wrap64 ((t967.length : Int) + (t970.length : Int))))))) else (none)) else (none)) = some r := H
     have A11 := zK A110
     clear A110
     by_cases c12 : 0 < (t973.length : Int)
     ·
      rw [if_pos c12] at H
      have c12b0 : decide (0 < (t973.length : Int)) = true := decide_eq_true c12
      have c12b1 : decide (0 < t973.length) = true := decide_eq_true (by omega)
      clear c12
      by_cases c13 : 0 < ((rd_L17 t973 0).length : Int)
      ·
       rw [if_pos c13] at H
       have c13b0 : decide (0 < ((rd_L17 t973 0).length : Int)) = true := decide_eq_true c13
       have c13b1 : decide (0 < (rd_L17 t973 0).length) = true := decide_eq_true (by omega)
       clear c13
       by_cases c14 : (wrap64 ((t967.length : Int) + (t970.length : Int))) = 0
       ·
        rw [if_pos c14] at H
        exact absurd H (by simp)
       ·
        rw [if_neg c14] at H
        have c14b0 : ((wrap64 ((t967.length : Int) + (t970.length : Int))) == 0) = false := beq_eq_false_iff_ne.mpr c14
        have c14b1 : ((wrap64 ((t967.length : Int) + (t970.length : Int))) != 0) = true := bne_iff_ne.mpr c14
        obtain rfl := Option.some.inj H
        go_wp2_with (first | ((with_reducible refine gate_callee (f := 137) rfl ?_); refine goesL_ (some 19) rfl rfl Tryd.func137 (by kernel_rfl) rfl #[.string a0] rfl (by (try simp only [List.map_toArray, List.map_cons, List.map_nil]); first | done | rfl | (simp only [List.length_drop, List.length_take]; rfl)) ?_; (with_reducible refine (impl_linesOf.calls a0 t967 _ A9.out).mono ?_); rintro e w15 ⟨v968, rfl, ho0, hb⟩; refine ⟨_, rfl, ?_⟩; have n0_ := zK (Kd.R_lower ho0 (below_size (by repeat (first | (with_reducible first | exact HB.out | apply zA | apply zN | apply zD) | exact HB.out)))); have n1_ := zK (below_step (by repeat (first | (with_reducible first | exact HB.out | apply zA | apply zN | apply zD) | exact HB.out)) hb); clear HB; have HO969 := n0_; have HB := n1_; clear n0_ n1_; (try clear hb); (try clear hb2); (try clear hk); (try clear hi); (try clear ho0)) | ((with_reducible refine gate_callee (f := 137) rfl ?_); refine goesL_ (some 21) rfl rfl Tryd.func137 (by kernel_rfl) rfl #[.string a1] rfl (by (try simp only [List.map_toArray, List.map_cons, List.map_nil]); first | done | rfl | (simp only [List.length_drop, List.length_take]; rfl)) ?_; (with_reducible refine (impl_linesOf.calls a1 t970 _ A10.out).mono ?_); rintro e w16 ⟨v971, rfl, ho0, hb⟩; refine ⟨_, rfl, ?_⟩; have n0_ := zK (Kd.R_elder' (by (with_reducible repeat (first | apply zR | apply zV | apply zW)); exact HO969.out) (Kd.R_base ho0) hb); have n1_ := zK (Kd.R_lower (Kd.R_new' ho0 (Kd.R_lt (by (with_reducible repeat (first | apply zR | apply zV | apply zW)); exact HO969.out))) (below_size (by repeat (first | (with_reducible first | exact HB.out | apply zA | apply zN | apply zD) | exact HB.out)))); have n2_ := zK (below_step (by repeat (first | (with_reducible first | exact HB.out | apply zA | apply zN | apply zD) | exact HB.out)) hb); clear HO969; clear HB; have HO969 := n0_; have HO972 := n1_; have HB := n2_; clear n0_ n1_ n2_; (try clear hb); (try clear hb2); (try clear hk); (try clear hi); (try clear ho0); obtain ⟨Ao17, co17, eo17⟩ := Kd.R_slice HO969.out; subst eo17; obtain ⟨Ao18, co18, eo18⟩ := Kd.R_slice HO972.out; subst eo18) | ((with_reducible refine gate_callee (f := 139) rfl ?_); refine goesL_ (some 24) rfl rfl Tryd.func139 (by kernel_rfl) rfl #[.slice Ao17 t967.length co17, .slice Ao18 t970.length co18] rfl (by (try simp only [List.map_toArray, List.map_cons, List.map_nil]); first | done | rfl | (simp only [List.length_drop, List.length_take]; rfl)) ?_; (with_reducible refine (impl_commons.calls _ _ t967 _ _ t970 t973 _ ?side1 ?side2 ?side3 ?side4 A11.out).mono ?_); (case side1 => repeat (first | exact (Kd.R_reads' HO969.out).2.2 | (with_reducible refine Kd.C_alloc ?_ _) | (with_reducible refine Kd.C_drewN ?_ _) | (with_reducible refine Kd.C_drew ?_))); (case side2 => exact (Kd.R_reads' HO969.out).2.1); (case side3 => repeat (first | exact (Kd.R_reads' HO972.out).2.2 | (with_reducible refine Kd.C_alloc ?_ _) | (with_reducible refine Kd.C_drewN ?_ _) | (with_reducible refine Kd.C_drew ?_))); (case side4 => exact (Kd.R_reads' HO972.out).2.1); rintro e w19 ⟨v974, rfl, ho0, hb⟩; refine ⟨_, rfl, ?_⟩; have n0_ := zK (Kd.R_below (by (with_reducible repeat (first | apply zR | apply zV | apply zW)); exact HO969.out) hb); have n1_ := zK (Kd.R_below (by (with_reducible repeat (first | apply zR | apply zV | apply zW)); exact HO972.out) hb); have n2_ := zK (Kd.S_lower ho0 (below_size (by repeat (first | (with_reducible first | exact HB.out | apply zA | apply zN | apply zD) | exact HB.out)))); have n3_ := zK (below_step (by repeat (first | (with_reducible first | exact HB.out | apply zA | apply zN | apply zD) | exact HB.out)) hb); clear HO969; clear HO972; clear HB; have HO969 := n0_; have HO972 := n1_; have HO975 := n2_; have HB := n3_; clear n0_ n1_ n2_ n3_; (try clear hb); (try clear hb2); (try clear hk); (try clear hi); (try clear ho0); obtain ⟨Ao20, co20, eo20⟩ := Kd.S_slice HO975.out; subst eo20; have p976 : 0 ≤ (0 : Int) := (by omega); have q976 : 0 < (t973.length : Int) := zX (by first | (with_reducible assumption) | assumption); obtain ⟨ad976, A976_0, c976_0, e976, hx976_0, hl976_0, hi976_0⟩ := at_L17 (Kd.S_reads' HO975.out).2.2 0 p976 q976; cases e976; obtain ⟨ce976, hce976, hMe976, hcc976⟩ := Kd.S_get HO975.out [] 0 p976 (by first | exact q976 | exact zX (by first | (with_reducible assumption) | assumption) | (have e_ := (Kd.S_reads' HO975.out).1; omega)); obtain ⟨ve976_0, rfl, ge976_0⟩ := hMe976; have hv976_0 := hcc976 0 _ rfl; rw [Nat.add_zero, show ((Kd.slice 2 (Kd.int .i64))).sz = 1 from rfl, Nat.mul_one] at hv976_0; replace hv976_0 := Option.some.inj (hv976_0.symm.trans hx976_0); rw [hv976_0] at ge976_0; have HL976_0 := zK (show Kd.R (Kd.int .i64) 2 _ _ _ _ (rd_L17 t973 0) from ge976_0); clear hv976_0 ge976_0; clear hcc976 hce976; have qi976 : (0 < t973.length) = True := eq_true (by omega); (try rw [show ((0 : Int)).toNat = 0 from rfl] at hx976_0); (try rw [Addr.add_zero'] at hx976_0); have HR976_0 := zK hi976_0; have HC976_0 := zK hl976_0; clear hi976_0 hl976_0; replace p976 := eq_true p976; replace q976 := eq_true q976; have p977 : 0 ≤ (0 : Int) := (by omega); have q977 : 0 < ((rd_L17 t973 0).length : Int) := zX (by first | (with_reducible assumption) | assumption); obtain ⟨ad977, e977, hx977_0⟩ := Kd.at_int (by repeat (first | (with_reducible exact HR976_0.out) | (with_reducible refine Kd.C_alloc ?_ _) | (with_reducible refine Kd.C_drewN ?_ _) | (with_reducible refine Kd.C_drew ?_) | exact HR976_0.out)) 0 p977 q977; cases e977; have qi977 : (0 < (rd_L17 t973 0).length) = True := eq_true (by omega); (try rw [show ((0 : Int)).toNat = 0 from rfl] at hx977_0); (try rw [Addr.add_zero'] at hx977_0); replace p977 := eq_true p977; replace q977 := eq_true q977))
        go_ret
        exact ⟨by first | rfl | (simp [errW_none, errW_some] <;> rfl) | (simp [*, errW_none, errW_some] <;> rfl), by repeat (first | (with_reducible first | exact HB.out | apply zA | apply zN | apply zD) | exact HB.out)⟩
      ·
       rw [if_neg c13] at H
       exact absurd H (by simp)
     ·
      rw [if_neg c12] at H
      exact absurd H (by simp)


/-! ### impl_ScoreTexts: function 16 -/
def impl_ScoreTexts.f (k : Nat) (a0 : ByteArray) (a1 : ByteArray) : Option (Int × Int) := (impl_TextFault.f a0).bind fun t979 => ((impl_TextFault.f a1).bind fun t980 => ((impl_firstCode.f k (([t979, t980] : List Int))).bind fun t984 => (if t984 = 0 then ((impl_score.f k a0 a1).bind fun t985 => (some (0, t985))) else (some (t984, 0)))))
theorem impl_ScoreTexts.mono : ∀ a0 a1 k, LeO (impl_ScoreTexts.f k a0 a1) (impl_ScoreTexts.f (k + 1) a0 a1) := by
 intro a0 a1 k
 unfold impl_ScoreTexts.f
 repeat' first
   | (with_reducible exact impl_firstCode.mono _ _)
   | (with_reducible exact impl_score.mono _ _ _)
   | (with_reducible exact LeO.refl _)
   | (with_reducible exact LeO.none _)
   | (with_reducible refine LeO.ite ?_ ?_)
   | (with_reducible refine LeO.bind ?_ (fun _ => ?_))
   | exact impl_firstCode.mono _ _
   | exact impl_score.mono _ _ _
   | exact LeO.none _
   | refine LeO.ite ?_ ?_
   | refine LeO.bind ?_ (fun _ => ?_)
set_option maxHeartbeats 8000000 in
set_option maxRecDepth 100000 in
theorem impl_ScoreTexts.calls (k : Nat) (a0 : ByteArray) (a1 : ByteArray) (r1 : Int) (r2 : Int) (w : World) (h : impl_ScoreTexts.f k a0 a1 = some (r1, r2)) :
  Calls Tryd.prog 16 #[.string a0, .string a1] w fun e w' => e = .returned (.agg #[.int .i64 r1, .int .i64 r2]) ∧ Below w.heap.size w w' := by
 have hu23 := Tryd.underlying23
 have HB := zK (Below.refl w.heap.size w)
 have H : ((impl_TextFault.f a0).bind fun t979 => ((impl_TextFault.f a1).bind fun t980 => ((impl_firstCode.f k (([t979, t980] : List Int))).bind fun t984 => (if t984 = 0 then ((impl_score.f k a0 a1).bind fun t985 => (some (0, t985))) else (some (t984, 0)))))) = some (r1, r2) := h
 clear h
 replace H := Option.bind_eq_some_iff.mp H
 obtain ⟨t979, A30, H⟩ := H
 replace H : ((impl_TextFault.f a1).bind fun t980 => ((impl_firstCode.f k (([t979, t980] : List Int))).bind fun t984 => (if t984 = 0 then ((impl_score.f k a0 a1).bind fun t985 => (some (0, t985))) else (some (t984, 0))))) = some (r1, r2) := H
 have A3 := zK A30
 clear A30
 replace H := Option.bind_eq_some_iff.mp H
 obtain ⟨t980, A40, H⟩ := H
 replace H : ((impl_firstCode.f k (([t979, t980] : List Int))).bind fun t984 => (if t984 = 0 then ((impl_score.f k a0 a1).bind fun t985 => (some (0, t985))) else (some (t984, 0)))) = some (r1, r2) := H
 have A4 := zK A40
 clear A40
 obtain ⟨y981, hy981⟩ : ∃ y_ : List Int, y_ = (([t979, t980] : List Int)) := ⟨_, rfl⟩
 replace H : ((impl_firstCode.f k y981).bind fun t984 => (if t984 = 0 then ((impl_score.f k a0 a1).bind fun t985 => (some (0, t985))) else (some (t984, 0)))) = some (r1, r2) := by first | (rw [hy981]; with_reducible exact H) | (have H2_ := (Option.bind_some _ _).symm.trans H; rw [hy981]; with_reducible exact H2_) | (have H2_ := (Option.bind_some _ _).symm.trans H; with_reducible exact H2_) | with_reducible exact H | (rw [hy981]; exact H) | exact H
 have Ny981 := zK hy981
 clear hy981
 replace H := Option.bind_eq_some_iff.mp H
 obtain ⟨t984, A50, H⟩ := H
 replace H : (if t984 = 0 then ((impl_score.f k a0 a1).bind fun t985 => (some (0, t985))) else (some (t984, 0))) = some (r1, r2) := H
 have A5 := zK A50
 clear A50
 by_cases c6 : t984 = 0
 ·
  rw [if_pos c6] at H
  have c6b0 : (t984 == 0) = true := beq_iff_eq.mpr c6
  have c6b1 : (t984 != 0) = false := bne_eq_false_iff_eq.mpr c6
  clear c6
  replace H := Option.bind_eq_some_iff.mp H
  obtain ⟨t985, A70, H⟩ := H
  replace H : (some (0, t985)) = some (r1, r2) := H
  have A7 := zK A70
  clear A70
  simp only [Option.some.injEq, Prod.mk.injEq] at H
  obtain ⟨rfl, rfl⟩ := H
  go_enter Tryd.func16, Tryd.ntmps16
  go_wp2_with (first | ((with_reducible refine gate_dst (N := 4) rfl ?_); refine box_event ?hg (N := 4) ?hd (cs := #[.int .i64 0, .int .i64 0]) (t := 23) ?hr ?_; (case hd => rfl); (case hg => rfl); (case hr => first | (go_simp; done) | (go_simp; rfl)); intro gb978 hg w8 hbox hb; have n0_ := zK (below_step (by repeat (first | (with_reducible first | exact HB.out | apply zA | apply zN | apply zD) | exact HB.out)) hb); have n1_ := zK (hbox); have n2_ := zK ((by rw [hg]; exact (below_size (by repeat (first | (with_reducible first | exact HB.out | apply zA | apply zN | apply zD) | exact HB.out))) : w.heap.size ≤ gb978)); have n3_ := zK ((by rw [hg]; exact (below_size (by repeat (first | (with_reducible first | exact HB.out | apply zA | apply zN | apply zD) | exact HB.out))) : w.heap.size ≤ gb978)); clear HB; have HB := n0_; have BK978 := n1_; have GW978 := n2_; have GE978 := n3_; clear n0_ n1_ n2_ n3_; clear hb hbox hg) | ((with_reducible refine gate_callee (f := 73) rfl ?_); refine goesL_ (some 7) rfl rfl Tryd.func73 (by kernel_rfl) rfl #[.string a0] rfl (by (try simp only [List.map_toArray, List.map_cons, List.map_nil]); first | done | rfl | (simp only [List.length_drop, List.length_take]; rfl)) ?_; (with_reducible refine (impl_TextFault.calls a0 t979 _ A3.out).mono ?_); rintro e w9 ⟨rfl, hb⟩; refine ⟨_, rfl, ?_⟩; have n0_ := zK (blk_below (g := gb978) (o := .cells #[.int .i64 0, .int .i64 0] 23 (0, 0)) (by (with_reducible repeat (first | refine zM ?_ _ | refine zP ?_ | refine zQ ?_ _)); exact BK978.out) hb); have n1_ := zK (below_step (by repeat (first | (with_reducible first | exact HB.out | apply zA | apply zN | apply zD | refine below_set ?_ GE978.out) | exact HB.out)) hb); clear BK978; clear HB; have BK978 := n0_; have HB := n1_; clear n0_ n1_; (try clear hb); (try clear hb2); (try clear hk); (try clear hi)) | ((with_reducible refine gate_callee (f := 73) rfl ?_); refine goesL_ (some 9) rfl rfl Tryd.func73 (by kernel_rfl) rfl #[.string a1] rfl (by (try simp only [List.map_toArray, List.map_cons, List.map_nil]); first | done | rfl | (simp only [List.length_drop, List.length_take]; rfl)) ?_; (with_reducible refine (impl_TextFault.calls a1 t980 _ A4.out).mono ?_); rintro e w10 ⟨rfl, hb⟩; refine ⟨_, rfl, ?_⟩; have n0_ := zK (blk_below (g := gb978) (o := .cells #[.int .i64 0, .int .i64 0] 23 (0, 0)) (by (with_reducible repeat (first | refine zM ?_ _ | refine zP ?_ | refine zQ ?_ _)); exact BK978.out) hb); have n1_ := zK (below_step (by repeat (first | (with_reducible first | exact HB.out | apply zA | apply zN | apply zD | refine below_set ?_ GE978.out) | exact HB.out)) hb); clear BK978; clear HB; have BK978 := n0_; have HB := n1_; clear n0_ n1_; (try clear hb); (try clear hb2); (try clear hk); (try clear hi)) | ((with_reducible refine gate_dst (N := 10) rfl ?_); refine Kd.R_lit (Kd.int .i64) _ 2 ?hg (N := 10) ?hd (xs := ([t979, t980] : List Int)) (inner := [.int .i64 t979, .int .i64 t980]) (ok := fun _ => True) (okp := fun _ => True) ?hr ?hp (fun _ hk => hk) trivial (Below.refl _ _) (Nat.le_refl _) (by simp) ?_; (case hd => rfl); (case hg => rfl); (case hr => first | (go_simp; done) | (go_simp; rfl)); (case hp => exact (Reps.one (show Kd.M (Kd.int .i64) _ _ _ t979 [.int .i64 t979] from rfl) (Reps.one (show Kd.M (Kd.int .i64) _ _ _ t980 [.int .i64 t980] from rfl) (Reps.none _ _)))); intro v982 w11 ho12 hb hg_ hnew_; clear hg_ hnew_; (first | rw [← Ny981.out] at ho12 | (simp only [Int.reduceToNat] at ho12; rw [← Ny981.out] at ho12)); have n0_ := zK (Kd.R_lower ho12 (below_size (by repeat (first | (with_reducible first | exact HB.out | apply zA | apply zN | apply zD | refine below_set ?_ GE978.out) | exact HB.out)))); have n1_ := zK (blk_below (g := gb978) (o := .cells #[.int .i64 0, .int .i64 0] 23 (0, 0)) (by (with_reducible repeat (first | refine zM ?_ _ | refine zP ?_ | refine zQ ?_ _)); exact BK978.out) hb); have n2_ := zK (below_step (by repeat (first | (with_reducible first | exact HB.out | apply zA | apply zN | apply zD | refine below_set ?_ GE978.out) | exact HB.out)) hb); clear BK978; clear HB; have HO983 := n0_; have BK978 := n1_; have HB := n2_; clear n0_ n1_ n2_; clear hb ho12; obtain ⟨Ao13, co13, eo13⟩ := Kd.R_slice HO983.out; subst eo13) | ((with_reducible refine gate_callee (f := 72) rfl ?_); refine goesL_ (some 11) rfl rfl Tryd.func72 (by kernel_rfl) rfl #[.slice Ao13 y981.length co13] rfl (by (try simp only [List.map_toArray, List.map_cons, List.map_nil]); first | done | rfl | (simp only [List.length_drop, List.length_take]; rfl)) ?_; (with_reducible refine (impl_firstCode.calls k _ _ y981 t984 _ ?side1 ?side2 A5.out).mono ?_); (case side1 => repeat (first | exact (Kd.R_reads' HO983.out).2.2 | (with_reducible refine Kd.C_alloc ?_ _) | (with_reducible refine Kd.C_drewN ?_ _) | (with_reducible refine Kd.C_drew ?_))); (case side2 => exact (Kd.R_reads' HO983.out).2.1); rintro e w' ⟨rfl, ⟨nd, rfl⟩⟩; refine ⟨_, rfl, ?_⟩; (try (rw [drewN_self w11]; generalize hq_ : World.drewN w11 _ = w11; have n0_ : Aside0 (Kd.R (Kd.int .i64) 2 w11 w.heap.size (fun _ => True) (.slice Ao13 y981.length co13) y981) := ⟨by rw [← hq_]; exact (by (with_reducible repeat (first | apply zR | apply zV | apply zW)); exact HO983.out)⟩; have n1_ : Aside0 (w11.heap[gb978]? = some (.cells #[.int .i64 0, .int .i64 0] 23 (0, 0))) := ⟨by rw [← hq_]; exact (by (with_reducible repeat (first | refine zM ?_ _ | refine zP ?_ | refine zQ ?_ _)); exact BK978.out)⟩; have n2_ : Aside0 (Below w.heap.size w w11) := ⟨by rw [← hq_]; exact (by repeat (first | (with_reducible first | exact HB.out | apply zA | apply zN | apply zD | refine below_set ?_ GE978.out) | exact HB.out))⟩; clear HO983 BK978 HB hq_; have HO983 := n0_; have BK978 := n1_; have HB := n2_; clear n0_ n1_ n2_))) | ((with_reducible refine gate_callee (f := 74) rfl ?_); refine goesL_ (some 18) rfl rfl Tryd.func74 (by kernel_rfl) rfl #[.string a0, .string a1] rfl (by (try simp only [List.map_toArray, List.map_cons, List.map_nil]); first | done | rfl | (simp only [List.length_drop, List.length_take]; rfl)) ?_; (with_reducible refine (impl_score.calls k a0 a1 t985 _ A7.out).mono ?_); rintro e w14 ⟨rfl, hb⟩; refine ⟨_, rfl, ?_⟩; have n0_ := zK (Kd.R_below (by (with_reducible repeat (first | apply zR | apply zV | apply zW)); exact HO983.out) hb); have n1_ := zK (blk_below (g := gb978) (o := .cells #[.int .i64 0, .int .i64 0] 23 (0, 0)) (by (with_reducible repeat (first | refine zM ?_ _ | refine zP ?_ | refine zQ ?_ _)); exact BK978.out) hb); have n2_ := zK (below_step (by repeat (first | (with_reducible first | exact HB.out | apply zA | apply zN | apply zD | refine below_set ?_ GE978.out) | exact HB.out)) hb); clear HO983; clear BK978; clear HB; have HO983 := n0_; have BK978 := n1_; have HB := n2_; clear n0_ n1_ n2_; (try clear hb); (try clear hb2); (try clear hk); (try clear hi); have hcz15_0 : w14.cell? ⟨gb978, 0, none⟩ = some (.int .i64 0) := (blk_cell BK978.out 0).trans rfl; have hcz15_1 : w14.cell? ⟨gb978, 1, none⟩ = some (.int .i64 0) := (blk_cell BK978.out 1).trans rfl; have hfz15_0 := blk_frozen BK978.out 0; have hfz15_1 := blk_frozen BK978.out 1))
  refine bodyPost_ret (results_cell_row rfl _ _ gb978 23 #[.int .i64 0, .int .i64 t985] (0, 0) _ rfl (by (with_reducible repeat (first | refine zM ?_ _ | refine zP ?_ | refine zQ ?_ _)); refine blk_put (cs := #[.int .i64 0, .int .i64 0]) ?_ 1 _ rfl; (with_reducible repeat (first | refine zM ?_ _ | refine zP ?_ | refine zQ ?_ _)); refine blk_put (cs := #[.int .i64 0, .int .i64 0]) ?_ 0 _ rfl; (with_reducible repeat (first | refine zM ?_ _ | refine zP ?_ | refine zQ ?_ _)); exact BK978.out) Tryd.underlying23 rfl (by kernel_rfl)) rfl ?_
  exact ⟨by first | rfl | (simp [errW_none, errW_some] <;> rfl) | (simp [*, errW_none, errW_some] <;> rfl), by repeat (first | (with_reducible first | exact HB.out | apply zA | apply zN | apply zD | refine below_set ?_ GE978.out) | exact HB.out)⟩
 ·
  rw [if_neg c6] at H
  have c6b0 : (t984 == 0) = false := beq_eq_false_iff_ne.mpr c6
  have c6b1 : (t984 != 0) = true := bne_iff_ne.mpr c6
  simp only [Option.some.injEq, Prod.mk.injEq] at H
  obtain ⟨rfl, rfl⟩ := H
  go_enter Tryd.func16, Tryd.ntmps16
  go_wp2_with (first | ((with_reducible refine gate_dst (N := 4) rfl ?_); refine box_event ?hg (N := 4) ?hd (cs := #[.int .i64 0, .int .i64 0]) (t := 23) ?hr ?_; (case hd => rfl); (case hg => rfl); (case hr => first | (go_simp; done) | (go_simp; rfl)); intro gb978 hg w16 hbox hb; have n0_ := zK (below_step (by repeat (first | (with_reducible first | exact HB.out | apply zA | apply zN | apply zD) | exact HB.out)) hb); have n1_ := zK (hbox); have n2_ := zK ((by rw [hg]; exact (below_size (by repeat (first | (with_reducible first | exact HB.out | apply zA | apply zN | apply zD) | exact HB.out))) : w.heap.size ≤ gb978)); have n3_ := zK ((by rw [hg]; exact (below_size (by repeat (first | (with_reducible first | exact HB.out | apply zA | apply zN | apply zD) | exact HB.out))) : w.heap.size ≤ gb978)); clear HB; have HB := n0_; have BK978 := n1_; have GW978 := n2_; have GE978 := n3_; clear n0_ n1_ n2_ n3_; clear hb hbox hg) | ((with_reducible refine gate_callee (f := 73) rfl ?_); refine goesL_ (some 7) rfl rfl Tryd.func73 (by kernel_rfl) rfl #[.string a0] rfl (by (try simp only [List.map_toArray, List.map_cons, List.map_nil]); first | done | rfl | (simp only [List.length_drop, List.length_take]; rfl)) ?_; (with_reducible refine (impl_TextFault.calls a0 t979 _ A3.out).mono ?_); rintro e w17 ⟨rfl, hb⟩; refine ⟨_, rfl, ?_⟩; have n0_ := zK (blk_below (g := gb978) (o := .cells #[.int .i64 0, .int .i64 0] 23 (0, 0)) (by (with_reducible repeat (first | refine zM ?_ _ | refine zP ?_ | refine zQ ?_ _)); exact BK978.out) hb); have n1_ := zK (below_step (by repeat (first | (with_reducible first | exact HB.out | apply zA | apply zN | apply zD | refine below_set ?_ GE978.out) | exact HB.out)) hb); clear BK978; clear HB; have BK978 := n0_; have HB := n1_; clear n0_ n1_; (try clear hb); (try clear hb2); (try clear hk); (try clear hi)) | ((with_reducible refine gate_callee (f := 73) rfl ?_); refine goesL_ (some 9) rfl rfl Tryd.func73 (by kernel_rfl) rfl #[.string a1] rfl (by (try simp only [List.map_toArray, List.map_cons, List.map_nil]); first | done | rfl | (simp only [List.length_drop, List.length_take]; rfl)) ?_; (with_reducible refine (impl_TextFault.calls a1 t980 _ A4.out).mono ?_); rintro e w18 ⟨rfl, hb⟩; refine ⟨_, rfl, ?_⟩; have n0_ := zK (blk_below (g := gb978) (o := .cells #[.int .i64 0, .int .i64 0] 23 (0, 0)) (by (with_reducible repeat (first | refine zM ?_ _ | refine zP ?_ | refine zQ ?_ _)); exact BK978.out) hb); have n1_ := zK (below_step (by repeat (first | (with_reducible first | exact HB.out | apply zA | apply zN | apply zD | refine below_set ?_ GE978.out) | exact HB.out)) hb); clear BK978; clear HB; have BK978 := n0_; have HB := n1_; clear n0_ n1_; (try clear hb); (try clear hb2); (try clear hk); (try clear hi)) | ((with_reducible refine gate_dst (N := 10) rfl ?_); refine Kd.R_lit (Kd.int .i64) _ 2 ?hg (N := 10) ?hd (xs := ([t979, t980] : List Int)) (inner := [.int .i64 t979, .int .i64 t980]) (ok := fun _ => True) (okp := fun _ => True) ?hr ?hp (fun _ hk => hk) trivial (Below.refl _ _) (Nat.le_refl _) (by simp) ?_; (case hd => rfl); (case hg => rfl); (case hr => first | (go_simp; done) | (go_simp; rfl)); (case hp => exact (Reps.one (show Kd.M (Kd.int .i64) _ _ _ t979 [.int .i64 t979] from rfl) (Reps.one (show Kd.M (Kd.int .i64) _ _ _ t980 [.int .i64 t980] from rfl) (Reps.none _ _)))); intro v982 w19 ho20 hb hg_ hnew_; clear hg_ hnew_; (first | rw [← Ny981.out] at ho20 | (simp only [Int.reduceToNat] at ho20; rw [← Ny981.out] at ho20)); have n0_ := zK (Kd.R_lower ho20 (below_size (by repeat (first | (with_reducible first | exact HB.out | apply zA | apply zN | apply zD | refine below_set ?_ GE978.out) | exact HB.out)))); have n1_ := zK (blk_below (g := gb978) (o := .cells #[.int .i64 0, .int .i64 0] 23 (0, 0)) (by (with_reducible repeat (first | refine zM ?_ _ | refine zP ?_ | refine zQ ?_ _)); exact BK978.out) hb); have n2_ := zK (below_step (by repeat (first | (with_reducible first | exact HB.out | apply zA | apply zN | apply zD | refine below_set ?_ GE978.out) | exact HB.out)) hb); clear BK978; clear HB; have HO983 := n0_; have BK978 := n1_; have HB := n2_; clear n0_ n1_ n2_; clear hb ho20; obtain ⟨Ao21, co21, eo21⟩ := Kd.R_slice HO983.out; subst eo21) | ((with_reducible refine gate_callee (f := 72) rfl ?_); refine goesL_ (some 11) rfl rfl Tryd.func72 (by kernel_rfl) rfl #[.slice Ao21 y981.length co21] rfl (by (try simp only [List.map_toArray, List.map_cons, List.map_nil]); first | done | rfl | (simp only [List.length_drop, List.length_take]; rfl)) ?_; (with_reducible refine (impl_firstCode.calls k _ _ y981 t984 _ ?side1 ?side2 A5.out).mono ?_); (case side1 => repeat (first | exact (Kd.R_reads' HO983.out).2.2 | (with_reducible refine Kd.C_alloc ?_ _) | (with_reducible refine Kd.C_drewN ?_ _) | (with_reducible refine Kd.C_drew ?_))); (case side2 => exact (Kd.R_reads' HO983.out).2.1); rintro e w' ⟨rfl, ⟨nd, rfl⟩⟩; refine ⟨_, rfl, ?_⟩; (try (rw [drewN_self w19]; generalize hq_ : World.drewN w19 _ = w19; have n0_ : Aside0 (Kd.R (Kd.int .i64) 2 w19 w.heap.size (fun _ => True) (.slice Ao21 y981.length co21) y981) := ⟨by rw [← hq_]; exact (by (with_reducible repeat (first | apply zR | apply zV | apply zW)); exact HO983.out)⟩; have n1_ : Aside0 (w19.heap[gb978]? = some (.cells #[.int .i64 0, .int .i64 0] 23 (0, 0))) := ⟨by rw [← hq_]; exact (by (with_reducible repeat (first | refine zM ?_ _ | refine zP ?_ | refine zQ ?_ _)); exact BK978.out)⟩; have n2_ : Aside0 (Below w.heap.size w w19) := ⟨by rw [← hq_]; exact (by repeat (first | (with_reducible first | exact HB.out | apply zA | apply zN | apply zD | refine below_set ?_ GE978.out) | exact HB.out))⟩; clear HO983 BK978 HB hq_; have HO983 := n0_; have BK978 := n1_; have HB := n2_; clear n0_ n1_ n2_)); have hcz22_0 : w19.cell? ⟨gb978, 0, none⟩ = some (.int .i64 0) := (blk_cell BK978.out 0).trans rfl; have hcz22_1 : w19.cell? ⟨gb978, 1, none⟩ = some (.int .i64 0) := (blk_cell BK978.out 1).trans rfl; have hfz22_0 := blk_frozen BK978.out 0; have hfz22_1 := blk_frozen BK978.out 1))
  refine bodyPost_ret (results_cell_row rfl _ _ gb978 23 #[.int .i64 t984, .int .i64 0] (0, 0) _ rfl (by (with_reducible repeat (first | refine zM ?_ _ | refine zP ?_ | refine zQ ?_ _)); refine blk_put (cs := #[.int .i64 t984, .int .i64 0]) ?_ 1 _ rfl; (with_reducible repeat (first | refine zM ?_ _ | refine zP ?_ | refine zQ ?_ _)); refine blk_put (cs := #[.int .i64 0, .int .i64 0]) ?_ 0 _ rfl; (with_reducible repeat (first | refine zM ?_ _ | refine zP ?_ | refine zQ ?_ _)); exact BK978.out) Tryd.underlying23 rfl (by kernel_rfl)) rfl ?_
  exact ⟨by first | rfl | (simp [errW_none, errW_some] <;> rfl) | (simp [*, errW_none, errW_some] <;> rfl), by repeat (first | (with_reducible first | exact HB.out | apply zA | apply zN | apply zD | refine below_set ?_ GE978.out) | exact HB.out)⟩


/-! ### laws_FnExactScoreTexts: function 3 -/
def laws_FnExactScoreTexts.f (k : Nat) (a0 : ByteArray) (a1 : ByteArray) : Option (Bool) := if (a0.size : Int) > 1048576 then (some true) else (if (a1.size : Int) > 1048576 then (some true) else ((spec_ScoreTexts.f k a0 a1).bind fun bt988 => ((impl_ScoreTexts.f k a0 a1).bind fun bt991 => ((laws_eqIntResult.f bt991.1 bt991.2 bt988.1 bt988.2).bind fun t994 => (if t994 = true then (some true) else (some false))))))
theorem laws_FnExactScoreTexts.mono : ∀ a0 a1 k, LeO (laws_FnExactScoreTexts.f k a0 a1) (laws_FnExactScoreTexts.f (k + 1) a0 a1) := by
 intro a0 a1 k
 unfold laws_FnExactScoreTexts.f
 repeat' first
   | (with_reducible exact impl_ScoreTexts.mono _ _ _)
   | (with_reducible exact spec_ScoreTexts.mono _ _ _)
   | (with_reducible exact LeO.refl _)
   | (with_reducible exact LeO.none _)
   | (with_reducible refine LeO.ite ?_ ?_)
   | (with_reducible refine LeO.bind ?_ (fun _ => ?_))
   | exact impl_ScoreTexts.mono _ _ _
   | exact spec_ScoreTexts.mono _ _ _
   | exact LeO.none _
   | refine LeO.ite ?_ ?_
   | refine LeO.bind ?_ (fun _ => ?_)
set_option maxHeartbeats 8000000 in
set_option maxRecDepth 100000 in
theorem laws_FnExactScoreTexts.calls (k : Nat) (a0 : ByteArray) (a1 : ByteArray) (r : Bool) (w : World) (h : laws_FnExactScoreTexts.f k a0 a1 = some r) (hT_ : r = true := by rfl) :
  Calls Tryd.prog 3 #[.string a0, .string a1] w fun e w' => e = .returned (.bool r) ∧ Below w.heap.size w w' := by
 have hu23 := Tryd.underlying23
 have HB := zK (Below.refl w.heap.size w)
 have H : (if (a0.size : Int) > 1048576 then (some true) else (if (a1.size : Int) > 1048576 then (some true) else ((spec_ScoreTexts.f k a0 a1).bind fun bt988 => ((impl_ScoreTexts.f k a0 a1).bind fun bt991 => ((laws_eqIntResult.f bt991.1 bt991.2 bt988.1 bt988.2).bind fun t994 => (if t994 = true then (some true) else (some false))))))) = some r := h
 clear h
 by_cases c3 : (a0.size : Int) > 1048576
 ·
  rw [if_pos c3] at H
  have c3b0 : decide (1048576 < (a0.size : Int)) = true := decide_eq_true c3
  have c3b1 : decide (1048576 < a0.size) = true := decide_eq_true (by omega)
  clear c3
  obtain rfl := Option.some.inj H
  go_enter Tryd.func3, Tryd.ntmps3
  go_wp2
  go_ret
  exact ⟨by first | rfl | (simp [errW_none, errW_some] <;> rfl) | (simp [*, errW_none, errW_some] <;> rfl), by repeat (first | (with_reducible first | exact HB.out | apply zA | apply zN | apply zD) | exact HB.out)⟩
 ·
  rw [if_neg c3] at H
  have c3b0 : decide (1048576 < (a0.size : Int)) = false := decide_eq_false c3
  have c3b1 : decide (1048576 < a0.size) = false := decide_eq_false (by omega)
  clear c3
  by_cases c4 : (a1.size : Int) > 1048576
  ·
   rw [if_pos c4] at H
   have c4b0 : decide (1048576 < (a1.size : Int)) = true := decide_eq_true c4
   have c4b1 : decide (1048576 < a1.size) = true := decide_eq_true (by omega)
   clear c4
   obtain rfl := Option.some.inj H
   go_enter Tryd.func3, Tryd.ntmps3
   go_wp2
   go_ret
   exact ⟨by first | rfl | (simp [errW_none, errW_some] <;> rfl) | (simp [*, errW_none, errW_some] <;> rfl), by repeat (first | (with_reducible first | exact HB.out | apply zA | apply zN | apply zD) | exact HB.out)⟩
  ·
   rw [if_neg c4] at H
   have c4b0 : decide (1048576 < (a1.size : Int)) = false := decide_eq_false c4
   have c4b1 : decide (1048576 < a1.size) = false := decide_eq_false (by omega)
   clear c4
   replace H := Option.bind_eq_some_iff.mp H
   obtain ⟨⟨t988, t989⟩, A50, H⟩ := H
   replace H : ((impl_ScoreTexts.f k a0 a1).bind fun bt991 => ((laws_eqIntResult.f bt991.1 bt991.2 t988 t989).bind fun t994 => (if t994 = true then (some true) else (some false)))) = some r := H
   have A5 := zK A50
   clear A50
   replace H := Option.bind_eq_some_iff.mp H
   obtain ⟨⟨t991, t992⟩, A60, H⟩ := H
   replace H : ((laws_eqIntResult.f t991 t992 t988 t989).bind fun t994 => (if t994 = true then (some true) else (some false))) = some r := H
   have A6 := zK A60
   clear A60
   replace H := Option.bind_eq_some_iff.mp H
   obtain ⟨t994, A70, H⟩ := H
   replace H : (if t994 = true then (some true) else (some false)) = some r := H
   have A7 := zK A70
   clear A70
   by_cases c8 : t994 = true
   ·
    subst c8
    have H1 : (some true) = some r := by rw [if_pos rfl] at H; exact H
    clear H
    have H := H1
    clear H1
    obtain rfl := Option.some.inj H
    go_enter Tryd.func3, Tryd.ntmps3
    go_wp2_with (first | ((with_reducible refine gate_callee (f := 15) rfl ?_); refine goesL_ (some 15) rfl rfl Tryd.func15 (by kernel_rfl) rfl #[.string a0, .string a1] rfl (by (try simp only [List.map_toArray, List.map_cons, List.map_nil]); first | done | rfl | (simp only [List.length_drop, List.length_take]; rfl)) ?_; (with_reducible refine (spec_ScoreTexts.calls k a0 a1 t988 t989 _ A5.out).mono ?_); rintro e w9 ⟨rfl, hb⟩; refine ⟨_, rfl, ?_⟩; have n0_ := zK (below_step (by repeat (first | (with_reducible first | exact HB.out | apply zA | apply zN | apply zD) | exact HB.out)) hb); clear HB; have HB := n0_; clear n0_; (try clear hb); (try clear hb2); (try clear hk); (try clear hi)) | ((with_reducible refine gate_dst (N := 5) rfl ?_); refine box_event ?hg (N := 5) ?hd (cs := #[.int .i64 0, .int .i64 0]) (t := 23) ?hr ?_; (case hd => rfl); (case hg => rfl); (case hr => first | (go_simp; done) | (go_simp; rfl)); intro gb990 hg w10 hbox hb; have n0_ := zK (below_step (by repeat (first | (with_reducible first | exact HB.out | apply zA | apply zN | apply zD) | exact HB.out)) hb); have n1_ := zK (hbox); have n2_ := zK ((by rw [hg]; exact (below_size (by repeat (first | (with_reducible first | exact HB.out | apply zA | apply zN | apply zD) | exact HB.out))) : w.heap.size ≤ gb990)); have n3_ := zK ((by rw [hg]; exact (below_size (by repeat (first | (with_reducible first | exact HB.out | apply zA | apply zN | apply zD) | exact HB.out))) : w.heap.size ≤ gb990)); clear HB; have HB := n0_; have BK990 := n1_; have GW990 := n2_; have GE990 := n3_; clear n0_ n1_ n2_ n3_; clear hb hbox hg; have hcz11_0 : w10.cell? ⟨gb990, 0, none⟩ = some (.int .i64 0) := (blk_cell BK990.out 0).trans rfl; have hcz11_1 : w10.cell? ⟨gb990, 1, none⟩ = some (.int .i64 0) := (blk_cell BK990.out 1).trans rfl; have hfz11_0 := blk_frozen BK990.out 0; have hfz11_1 := blk_frozen BK990.out 1) | ((with_reducible refine gate_callee (f := 16) rfl ?_); refine goesL_ (some 18) rfl rfl Tryd.func16 (by kernel_rfl) rfl #[.string a0, .string a1] rfl (by (try simp only [List.map_toArray, List.map_cons, List.map_nil]); first | done | rfl | (simp only [List.length_drop, List.length_take]; rfl)) ?_; (with_reducible refine (impl_ScoreTexts.calls k a0 a1 t991 t992 _ A6.out).mono ?_); rintro e w12 ⟨rfl, hb⟩; refine ⟨_, rfl, ?_⟩; have n0_ := zK (blk_below (g := gb990) (o := .cells #[.int .i64 t988, .int .i64 t989] 23 (0, 0)) (by (with_reducible repeat (first | refine zM ?_ _ | refine zP ?_ | refine zQ ?_ _)); refine blk_put (cs := #[.int .i64 t988, .int .i64 0]) ?_ 1 _ rfl; (with_reducible repeat (first | refine zM ?_ _ | refine zP ?_ | refine zQ ?_ _)); refine blk_put (cs := #[.int .i64 0, .int .i64 0]) ?_ 0 _ rfl; (with_reducible repeat (first | refine zM ?_ _ | refine zP ?_ | refine zQ ?_ _)); exact BK990.out) hb); have n1_ := zK (below_step (by repeat (first | (with_reducible first | exact HB.out | apply zA | apply zN | apply zD | refine below_set ?_ GE990.out) | exact HB.out)) hb); clear BK990; clear HB; have BK990 := n0_; have HB := n1_; clear n0_ n1_; (try clear hb); (try clear hb2); (try clear hk); (try clear hi)) | ((with_reducible refine gate_dst (N := 6) rfl ?_); refine box_event ?hg (N := 6) ?hd (cs := #[.int .i64 0, .int .i64 0]) (t := 23) ?hr ?_; (case hd => rfl); (case hg => rfl); (case hr => first | (go_simp; done) | (go_simp; rfl)); intro gb993 hg w13 hbox hb; have n0_ := zK (blk_below (g := gb990) (o := .cells #[.int .i64 t988, .int .i64 t989] 23 (0, 0)) (by (with_reducible repeat (first | refine zM ?_ _ | refine zP ?_ | refine zQ ?_ _)); exact BK990.out) hb); have n1_ := zK (below_step (by repeat (first | (with_reducible first | exact HB.out | apply zA | apply zN | apply zD | refine below_set ?_ GE990.out) | exact HB.out)) hb); have n2_ := zK (hbox); have n3_ := zK ((by rw [hg]; exact (below_size (by repeat (first | (with_reducible first | exact HB.out | apply zA | apply zN | apply zD | refine below_set ?_ GE990.out) | exact HB.out))) : w.heap.size ≤ gb993)); have n4_ := zK ((by rw [hg]; exact (below_size (by repeat (first | (with_reducible first | exact HB.out | apply zA | apply zN | apply zD | refine below_set ?_ GE990.out) | exact HB.out))) : w.heap.size ≤ gb993)); have n5_ := zK ((by rw [hg]; exact Nat.ne_of_lt (blk_lt (g := gb990) (o := .cells #[.int .i64 t988, .int .i64 t989] 23 (0, 0)) (by (with_reducible repeat (first | refine zM ?_ _ | refine zP ?_ | refine zQ ?_ _)); exact BK990.out)) : gb990 ≠ gb993)); have n6_ := zK ((by rw [hg]; exact Nat.ne_of_gt (blk_lt (g := gb990) (o := .cells #[.int .i64 t988, .int .i64 t989] 23 (0, 0)) (by (with_reducible repeat (first | refine zM ?_ _ | refine zP ?_ | refine zQ ?_ _)); exact BK990.out)) : gb993 ≠ gb990)); clear BK990; clear HB; have BK990 := n0_; have HB := n1_; have BK993 := n2_; have GW993 := n3_; have GE993 := n4_; have NB990_993 := n5_; have NB993_990 := n6_; clear n0_ n1_ n2_ n3_ n4_ n5_ n6_; clear hb hbox hg; have hnb14 := NB993_990.out; have hnc14 := NB990_993.out; have hcz15_0 : w13.cell? ⟨gb993, 0, none⟩ = some (.int .i64 0) := (blk_cell BK993.out 0).trans rfl; have hcz15_1 : w13.cell? ⟨gb993, 1, none⟩ = some (.int .i64 0) := (blk_cell BK993.out 1).trans rfl; have hfz15_0 := blk_frozen BK993.out 0; have hfz15_1 := blk_frozen BK993.out 1; have hcz16_0 : w13.cell? ⟨gb990, 0, none⟩ = some (.int .i64 t988) := (blk_cell BK990.out 0).trans rfl; have hcz16_1 : w13.cell? ⟨gb990, 1, none⟩ = some (.int .i64 t989) := (blk_cell BK990.out 1).trans rfl; have hfz16_0 := blk_frozen BK990.out 0; have hfz16_1 := blk_frozen BK990.out 1) | ((with_reducible refine gate_callee (f := 17) rfl ?_); refine goesL_ (some 21) rfl rfl Tryd.func17 (by kernel_rfl) rfl #[.agg #[.int .i64 t991, .int .i64 t992], .agg #[.int .i64 t988, .int .i64 t989]] rfl (by (try simp only [List.map_toArray, List.map_cons, List.map_nil]); first | done | rfl | (simp only [List.length_drop, List.length_take]; rfl)) ?_; (with_reducible refine (laws_eqIntResult.calls t991 t992 t988 t989 true _ A7.out).mono ?_); rintro e w17 ⟨rfl, hb⟩; refine ⟨_, rfl, ?_⟩; have n0_ := zK (blk_below (g := gb990) (o := .cells #[.int .i64 t988, .int .i64 t989] 23 (0, 0)) (by (with_reducible repeat (first | refine zM ?_ _ | refine zP ?_ | refine zQ ?_ _)); refine blk_far ?_ NB990_993.out _; (with_reducible repeat (first | refine zM ?_ _ | refine zP ?_ | refine zQ ?_ _)); refine blk_far ?_ NB990_993.out _; (with_reducible repeat (first | refine zM ?_ _ | refine zP ?_ | refine zQ ?_ _)); exact BK990.out) hb); have n1_ := zK (blk_below (g := gb993) (o := .cells #[.int .i64 t991, .int .i64 t992] 23 (0, 0)) (by (with_reducible repeat (first | refine zM ?_ _ | refine zP ?_ | refine zQ ?_ _)); refine blk_put (cs := #[.int .i64 t991, .int .i64 0]) ?_ 1 _ rfl; (with_reducible repeat (first | refine zM ?_ _ | refine zP ?_ | refine zQ ?_ _)); refine blk_put (cs := #[.int .i64 0, .int .i64 0]) ?_ 0 _ rfl; (with_reducible repeat (first | refine zM ?_ _ | refine zP ?_ | refine zQ ?_ _)); exact BK993.out) hb); have n2_ := zK (below_step (by repeat (first | (with_reducible first | exact HB.out | apply zA | apply zN | apply zD | refine below_set ?_ GE990.out | refine below_set ?_ GE993.out) | exact HB.out)) hb); clear BK990; clear BK993; clear HB; have BK990 := n0_; have BK993 := n1_; have HB := n2_; clear n0_ n1_ n2_; (try clear hb); (try clear hb2); (try clear hk); (try clear hi)))
    go_ret
    exact ⟨by first | rfl | (simp [errW_none, errW_some] <;> rfl) | (simp [*, errW_none, errW_some] <;> rfl), by repeat (first | (with_reducible first | exact HB.out | apply zA | apply zN | apply zD | refine below_set ?_ GE990.out | refine below_set ?_ GE993.out) | exact HB.out)⟩
   ·
    replace c8 := Bool.eq_false_iff.mpr c8
    subst c8
    have H1 : (some false) = some r := by rw [if_neg (show ¬ (false = true) by decide)] at H; exact H
    clear H
    have H := H1
    clear H1
    exact absurd ((Option.some.inj H).trans hT_) (by decide)

/-- THE ONE PURE STATEMENT of laws_FnExactScoreTexts: yours. -/
def laws_FnExactScoreTexts.Pure : Prop := ∀ (a0 : ByteArray) (a1 : ByteArray), a0.size ≤ 140737488351232 → a1.size ≤ 140737488351232 → ∃ k, laws_FnExactScoreTexts.f k a0 a1 = some true
theorem laws_FnExactScoreTexts.walk (P : laws_FnExactScoreTexts.Pure) (a0 : ByteArray) (a1 : ByteArray) (w : World) (w0 : a0.size ≤ 140737488351232) (w1 : a1.size ≤ 140737488351232) :
  Calls Tryd.prog 3 #[.string a0, .string a1] w fun e w' => e = .returned (.bool true) ∧ Below w.heap.size w w' := by
 obtain ⟨k, h⟩ := P a0 a1 w0 w1
 refine (laws_FnExactScoreTexts.calls k a0 a1 true w h).mono ?_
 rintro e w' ⟨rfl, hd⟩
 exact ⟨rfl, hd⟩

end Go.Proofs.YtcapmfgamdiijaaDoor.PX

namespace Go.Proofs.YtcapmfgamdiijaaDoorX
open Go Go.RowKit Go.Proofs.YtcapmfgamdiijaaDoorW.PrintWords Go.Proofs.YtcapmfgamdiijaaDoor.PX
set_option linter.unusedVariables false
set_option linter.unusedSimpArgs false
def zeroIn (l : List UInt8) : Bool := l.any fun b => b == 0
theorem index_zero : ∀ l : List UInt8, decide (Lib.indexByte l 0 ≥ 0) = zeroIn l
  | [] => rfl
  | b :: l => by
    have ih := index_zero l
    have hge := Lib.indexByte_ge l 0
    unfold zeroIn at ih ⊢
    rw [Lib.indexByte, List.any_cons, ← ih]
    by_cases hb : (b == 0) = true
    · rw [if_pos hb, hb]
      rfl
    · rw [if_neg hb, Bool.eq_false_iff.mpr hb, Bool.false_or]
      by_cases h1 : Lib.indexByte l 0 = -1
      · rw [if_pos (beq_iff_eq.mpr h1), h1]
      · rw [if_neg (fun z => h1 (beq_iff_eq.mp z)), decide_eq_true (by omega), decide_eq_true (by omega)]
def binV (s : ByteArray) : Bool := zeroIn s.data.toList
theorem impl_bin (s : ByteArray) : impl_IsBinary.f s = some (binV s) := by
  unfold impl_IsBinary.f binV
  rw [show strings_IndexByte.f s 0 = some (Lib.indexByte s.data.toList 0) from rfl, Option.bind_some, index_zero]
theorem sz_list (s : ByteArray) : s.data.toList.length = s.size := Array.length_toList
theorem bt_get (s : ByteArray) (i : Nat) (h : i < s.data.toList.length) : bt s (i : Int) = (s.data.toList[i].toNat : Int) := by
  have h2 : i < s.size := by rw [sz_list] at h; exact h
  unfold bt
  rw [dif_pos (show ((i : Int)).toNat < s.size by omega)]
  rfl
theorem spec_bin (s : ByteArray) (hs : s.size ≤ 1099511627776) : ∀ (d i : Nat), i + d = s.size → ∀ k, d < k → spec_IsBinary.l0 k s (i : Int) = some (zeroIn (s.data.toList.drop i))
  | 0, i, hi, k, hk => by
    obtain ⟨k, rfl⟩ : ∃ m, k = m + 1 := ⟨k - 1, by omega⟩
    rw [spec_IsBinary.l0, if_neg (by omega), List.drop_eq_nil_of_le (by rw [sz_list]; omega)]
    rfl
  | d + 1, i, hi, k, hk => by
    obtain ⟨k, rfl⟩ : ∃ m, k = m + 1 := ⟨k - 1, by omega⟩
    have hlt : i < s.data.toList.length := by rw [sz_list]; omega
    have ih := spec_bin s hs d (i + 1) (by omega) k (by omega)
    have hw : wrap64 ((i : Int) + 1) = ((i + 1 : Nat) : Int) := (wrap_in (by omega) (by omega)).trans (by omega)
    rw [spec_IsBinary.l0, if_pos (by omega), if_pos (by omega), bt_get s i hlt, List.drop_eq_getElem_cons hlt]
    show _ = some ((s.data.toList[i] == 0) || zeroIn (s.data.toList.drop (i + 1)))
    by_cases hb : s.data.toList[i] = 0
    · rw [if_pos (by rw [hb]; rfl), hb]
      rfl
    · rw [if_neg (fun z => hb (by
        have : s.data.toList[i].toNat = 0 := by omega
        exact UInt8.toNat_inj.mp this)), hw, ih, beq_eq_false_iff_ne.mpr hb, Bool.false_or]
theorem spec_bin0 (s : ByteArray) (hs : s.size ≤ 1099511627776) (k : Nat) (hk : s.size < k) : spec_IsBinary.f k s = some (binV s) := by
  have := spec_bin s hs s.size 0 (by omega) k hk
  rw [List.drop_zero] at this
  exact this
theorem lines_none (s : ByteArray) (h : linesB s = []) : s = ⟨#[]⟩ := by
  have h1 : lnL s.data.toList = [] := List.map_eq_nil_iff.1 h
  have h2 : s.data.toList = [] := by
    cases hl : s.data.toList with
    | nil => rfl
    | cons b l =>
      rw [hl] at h1
      unfold lnL at h1
      split at h1
      · cases h1
      · split at h1 <;> cases h1
  obtain ⟨⟨l⟩⟩ := s
  have : l = [] := h2
  rw [this]
def scoreV (a b : ByteArray) : Int :=
  if a = b then 1000 else if (binV a || binV b) = true then 0 else Int.tdiv (2000 * X.lv (linesB a) (linesB b) 0 0) (((linesB a).length : Int) + ((linesB b).length : Int))
theorem tab_zero (n m : Nat) (T : Nat → Nat → Int) : 0 < ((X.tabOf (n + 1) (m + 1) T).length : Int) ∧ 0 < ((rd_L17 (X.tabOf (n + 1) (m + 1) T) 0).length : Int) ∧ rd (rd_L17 (X.tabOf (n + 1) (m + 1) T) 0) 0 = T 0 0 := by
  have e : rd_L17 (X.tabOf (n + 1) (m + 1) T) 0 = (List.range (m + 1)).map fun j => T 0 j := by
    unfold rd_L17 X.tabOf
    rw [show ((0 : Int)).toNat = 0 from rfl, List.getD_eq_getElem?_getD, List.getElem?_map, List.getElem?_range (by omega)]
    rfl
  refine ⟨?_, ?_, ?_⟩
  · unfold X.tabOf
    rw [List.length_map, List.length_range]
    omega
  · rw [e, List.length_map, List.length_range]
    omega
  · rw [e]
    unfold rd
    rw [show ((0 : Int)).toNat = 0 from rfl, List.getD_eq_getElem?_getD, List.getElem?_map, List.getElem?_range (by omega)]
    rfl
theorem sum_ne {a b : ByteArray} (h : ¬ a = b) : ¬ ((linesB a).length : Int) + ((linesB b).length : Int) = 0 := by
  intro hz
  have h1 : linesB a = [] := List.eq_nil_of_length_eq_zero (by omega)
  have h2 : linesB b = [] := List.eq_nil_of_length_eq_zero (by omega)
  exact h ((lines_none a h1).trans (lines_none b h2).symm)
theorem spec_score (a b : ByteArray) (ha : a.size ≤ 2000) (hb : b.size ≤ 2000) (hla : (linesB a).length ≤ 100) (hlb : (linesB b).length ≤ 100) (k : Nat) (hk : 3000 < k) : spec_l8Score.f k a b = some (scoreV a b) := by
  obtain ⟨k, rfl⟩ : ∃ m, k = m + 1 := ⟨k - 1, by omega⟩
  unfold spec_l8Score.f scoreV
  simp only [toList_iff]
  by_cases hab : a = b
  · rw [if_pos hab, if_pos hab]
  · rw [if_neg hab, if_neg hab, spec_bin0 a (by omega) (k + 1) (by omega), Option.bind_some]
    by_cases h1 : binV a = true
    · rw [if_pos h1, spec_l8Score.j0, if_pos rfl, h1]
      rfl
    · rw [if_neg h1, spec_bin0 b (by omega) (k + 1) (by omega), Option.bind_some, spec_l8Score.j0, Bool.eq_false_iff.mpr h1, Bool.false_or]
      by_cases h2 : binV b = true
      · rw [if_pos h2, if_pos h2]
      · rw [if_neg h2, if_neg h2, spec_lines a (by omega) k (by omega), Option.bind_some, spec_lines b (by omega) k (by omega), Option.bind_some]
        have ht : spec_l2Table.f (linesB a) (linesB b) = some (X.tabOf ((linesB a).length + 1) ((linesB b).length + 1) (X.lv (linesB a) (linesB b))) := by
          unfold spec_l2Table.f
          rw [if_pos (by omega), if_pos (by omega)]
        obtain ⟨t1, t2, t3⟩ := tab_zero (linesB a).length (linesB b).length (X.lv (linesB a) (linesB b))
        have hs := sum_ne hab
        have l1 := X.lv_nonneg (linesB a) (linesB b) 0 0
        have l2 := X.lv_le (linesB a) (linesB b) 0 0
        have hw : wrap64 (((linesB a).length : Int) + ((linesB b).length : Int)) = ((linesB a).length : Int) + ((linesB b).length : Int) := wrap_in (by omega) (by omega)
        rw [ht, Option.bind_some, if_pos t1, if_pos t2, t3, hw, if_neg hs, wrap_in (i := 2000 * X.lv (linesB a) (linesB b) 0 0) (by omega) (by omega)]
        rw [wrap_in]
        · rw [Int.tdiv_eq_ediv_of_nonneg (by omega)]
          have := Int.ediv_nonneg (a := 2000 * X.lv (linesB a) (linesB b) 0 0) (b := ((linesB a).length : Int) + ((linesB b).length : Int)) (by omega) (by omega)
          omega
        · rw [Int.tdiv_eq_ediv_of_nonneg (by omega)]
          have := Int.ediv_le_self (a := 2000 * X.lv (linesB a) (linesB b) 0 0) (((linesB a).length : Int) + ((linesB b).length : Int)) (by omega)
          omega
theorem impl_score_tells (a b : ByteArray) (ha : a.size ≤ 2000) (hb : b.size ≤ 2000) (hla : (linesB a).length ≤ 100) (hlb : (linesB b).length ≤ 100) (k : Nat) (hk : 3000 < k) : impl_score.f k a b = some (scoreV a b) := by
  obtain ⟨k, rfl⟩ : ∃ m, k = m + 1 := ⟨k - 1, by omega⟩
  unfold impl_score.f scoreV
  simp only [toList_iff]
  by_cases hab : a = b
  · rw [if_pos hab, if_pos hab]
  · rw [if_neg hab, if_neg hab, impl_bin a, Option.bind_some]
    by_cases h1 : binV a = true
    · rw [if_pos h1, impl_score.j0, if_pos rfl, h1]
      rfl
    · rw [if_neg h1, impl_bin b, Option.bind_some, impl_score.j0, Bool.eq_false_iff.mpr h1, Bool.false_or]
      by_cases h2 : binV b = true
      · rw [if_pos h2, if_pos h2]
      · rw [if_neg h2, if_neg h2, impl_lines a (by omega), Option.bind_some, impl_lines b (by omega), Option.bind_some]
        have ht : impl_commons.f (linesB a) (linesB b) = some (X.tabOf ((linesB a).length + 1) ((linesB b).length + 1) (X.lv (linesB a) (linesB b))) := by
          unfold impl_commons.f
          rw [if_pos (by omega), if_pos (by omega)]
        obtain ⟨t1, t2, t3⟩ := tab_zero (linesB a).length (linesB b).length (X.lv (linesB a) (linesB b))
        have hs := sum_ne hab
        have l1 := X.lv_nonneg (linesB a) (linesB b) 0 0
        have l2 := X.lv_le (linesB a) (linesB b) 0 0
        have hw : wrap64 (((linesB a).length : Int) + ((linesB b).length : Int)) = ((linesB a).length : Int) + ((linesB b).length : Int) := wrap_in (by omega) (by omega)
        rw [ht, Option.bind_some, if_pos t1, if_pos t2, t3, hw, if_neg hs, wrap_in (i := 2 * X.lv (linesB a) (linesB b) 0 0) (by omega) (by omega), wrap_in (i := 2 * X.lv (linesB a) (linesB b) 0 0 * 1000) (by omega) (by omega)]
        rw [show 2 * X.lv (linesB a) (linesB b) 0 0 * 1000 = 2000 * X.lv (linesB a) (linesB b) 0 0 by omega]
        rw [wrap_in]
        · rw [Int.tdiv_eq_ediv_of_nonneg (by omega)]
          have := Int.ediv_nonneg (a := 2000 * X.lv (linesB a) (linesB b) 0 0) (b := ((linesB a).length : Int) + ((linesB b).length : Int)) (by omega) (by omega)
          omega
        · rw [Int.tdiv_eq_ediv_of_nonneg (by omega)]
          have := Int.ediv_le_self (a := 2000 * X.lv (linesB a) (linesB b) 0 0) (((linesB a).length : Int) + ((linesB b).length : Int)) (by omega)
          omega
def scoresV (a b : ByteArray) : Int × Int := if textV a = 0 then (if textV b = 0 then (0, scoreV a b) else (textV b, 0)) else (textV a, 0)
theorem textV_zero {s : ByteArray} (h : textV s = 0) : s.size ≤ 2000 ∧ (linesB s).length ≤ 100 := by
  unfold textV at h
  split at h
  · cases h
  · split at h
    · cases h
    · omega
theorem scoreTexts_pure (a b : ByteArray) (ha : a.size ≤ 140737488351232) (hb : b.size ≤ 140737488351232) : ∃ k, laws_FnExactScoreTexts.f k a b = some true := by
  refine ⟨4000, ?_⟩
  have e1 : spec_ScoreTexts.f 4000 a b = some (scoresV a b) := by
    unfold spec_ScoreTexts.f scoresV
    rw [spec_text a 4000 (by decide), Option.bind_some]
    by_cases h1 : textV a = 0
    · rw [if_pos h1, if_pos h1, spec_text b 4000 (by decide), Option.bind_some]
      by_cases h2 : textV b = 0
      · obtain ⟨a1, a2⟩ := textV_zero h1
        obtain ⟨b1, b2⟩ := textV_zero h2
        rw [if_pos h2, if_pos h2, spec_score a b a1 b1 a2 b2 4000 (by decide), Option.bind_some]
      · rw [if_neg h2, if_neg h2]
    · rw [if_neg h1, if_neg h1]
  have e2 : impl_ScoreTexts.f 4000 a b = some (scoresV a b) := by
    unfold impl_ScoreTexts.f scoresV
    rw [impl_text a, Option.bind_some, impl_text b, Option.bind_some, show impl_firstCode.f 4000 ([textV a, textV b] : List Int) = _ from firstCode_two _ _ 4000 (by decide), Option.bind_some]
    by_cases h1 : textV a = 0
    · rw [if_pos h1, if_pos h1]
      by_cases h2 : textV b = 0
      · obtain ⟨a1, a2⟩ := textV_zero h1
        obtain ⟨b1, b2⟩ := textV_zero h2
        rw [if_pos h2, if_pos h2, impl_score_tells a b a1 b1 a2 b2 4000 (by decide), Option.bind_some]
      · rw [if_neg h2, if_neg h2]
    · rw [if_neg h1, if_neg h1, if_neg h1]
  unfold laws_FnExactScoreTexts.f
  split
  · rfl
  · split
    · rfl
    · rw [e1, Option.bind_some, e2, Option.bind_some]
      unfold laws_eqIntResult.f
      rw [if_pos rfl, if_pos rfl]
      rfl
end Go.Proofs.YtcapmfgamdiijaaDoorX
