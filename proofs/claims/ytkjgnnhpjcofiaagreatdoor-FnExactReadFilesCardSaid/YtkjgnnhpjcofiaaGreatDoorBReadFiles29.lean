/- Texts of this claim set one behind another by wip/bundle.py: PXf217, PXf163, XLin, PXf122, XLines, PXf137, XWords, PXf75. -/
import Derived.Test.YtkjgnnhpjcofiaaGreatDoorBReadFiles14
import Derived.Test.YtkjgnnhpjcofiaaGreatDoorBReadFiles25
import Derived.Test.YtkjgnnhpjcofiaaGreatDoorBReadFiles9
import Derived.Test.YtkjgnnhpjcofiaaGreatDoorBReadFiles15
namespace Go.Proofs.YtkjgnnhpjcofiaaGreatDoor.PX
open Go.RowKit Go.Proofs.YtkjgnnhpjcofiaaGreatDoorW.PrintWords Go.Proofs.YtkjgnnhpjcofiaaGreatDoorW.PrintLast Go.Proofs.YtkjgnnhpjcofiaaGreatDoorW.PrintMore
attribute [local go_sem] max2_int min2_int max_two min_two max_three min_three max_four min_four   -- for this text's walks alone
set_option linter.unusedVariables false
set_option linter.unusedSimpArgs false
def strings_SplitAfter.f (a0 : ByteArray) (a1 : ByteArray) : Option (List (ByteArray)) := if a1.size = 1 then (if a0.size < 4294967281 then some (Lib.splitB a1 1 (Lib.countB a0 a1) a0) else none) else none
set_option maxHeartbeats 1000000 in
theorem strings_SplitAfter.calls (a0 : ByteArray) (a1 : ByteArray) (r : List (ByteArray)) (w : World) (h : strings_SplitAfter.f a0 a1 = some r) :
  Calls Tryz.prog 217 #[.string a0, .string a1] w fun e w' => ∃ v0_ : Value, e = .returned (v0_) ∧ Kd.R Kd.string 9 w' w.heap.size (fun _ => True) v0_ r ∧ Below w.heap.size w w' := by
 unfold strings_SplitAfter.f at h
 by_cases h1 : a1.size = 1
 ·
  rw [if_pos h1] at h
  by_cases h2 : a0.size < 4294967281
  ·
   rw [if_pos h2] at h
   obtain rfl := Option.some.inj h
   have HL := Lib.hid (X.pieces_le a0 a1 1 h1 h2)
   have H2 := Lib.hid h2
   have HC := Lib.hid (X.genSplit_one a0 a1 1 w h1 zq13 h2)
   clear h h2
   have H1 := Lib.hid h1
   have hi : (a1.size : Int) = 1 := by omega
   clear h1
   go_enter Tryz.func217, Tryz.ntmps217
   go_wp2_with (go_at_call 191; refine HC.out.mono ?_; rintro e w' ⟨rfl, rfl⟩)
   go_ret
   refine ⟨_, rfl, ?_, (Below.refl _ _).alloc (Nat.le_refl _) _⟩
   exact X.row_strings w _ (by have := HL.out; have := H2.out; omega)
  rw [if_neg h2] at h
  cases h
 rw [if_neg h1] at h
 cases h
def impl_linesOf.f (a0 : ByteArray) : Option (List ByteArray) := (strings_SplitAfter.f a0 (⟨#[10]⟩ : ByteArray)).bind fun t194 => (if 0 ≤ (wrap64 ((t194.length : Int) - 1)) then (if (wrap64 ((t194.length : Int) - 1)) < (t194.length : Int) then (if (rdOf ByteArray.empty t194 (wrap64 ((t194.length : Int) - 1))).toList = ([] : List UInt8) then (if (wrap64 ((t194.length : Int) - 1)) ≤ (t194.length : Int) then (some (t194.take ((wrap64 ((t194.length : Int) - 1)) : Int).toNat)) else (none)) else (some t194)) else (none)) else (none))
set_option maxHeartbeats 8000000 in
set_option maxRecDepth 100000 in
theorem impl_linesOf.calls (a0 : ByteArray) (r : List ByteArray) (w : World) (h : impl_linesOf.f a0 = some r) :
  Calls Tryz.prog 163 #[.string a0] w fun e w' => ∃ v0_ : Value, e = .returned (v0_) ∧ Kd.R Kd.string 9 w' w.heap.size (fun _ => True) v0_ r ∧ Below w.heap.size w w' := by
 have HB := zK (Below.refl w.heap.size w)
 have H : ((strings_SplitAfter.f a0 (⟨#[10]⟩ : ByteArray)).bind fun t194 => (if 0 ≤ (wrap64 ((t194.length : Int) - 1)) then (if (wrap64 ((t194.length : Int) - 1)) < (t194.length : Int) then (if (rdOf ByteArray.empty t194 (wrap64 ((t194.length : Int) - 1))).toList = ([] : List UInt8) then (if (wrap64 ((t194.length : Int) - 1)) ≤ (t194.length : Int) then (some (t194.take ((wrap64 ((t194.length : Int) - 1)) : Int).toNat)) else (none)) else (some t194)) else (none)) else (none))) = some r := h
 clear h
 replace H := Option.bind_eq_some_iff.mp H
 obtain ⟨t194, A20, H⟩ := H
 replace H : (if 0 ≤ (wrap64 ((t194.length : Int) - 1)) then (if (wrap64 ((t194.length : Int) - 1)) < (t194.length : Int) then (if (rdOf ByteArray.empty t194 (wrap64 ((t194.length : Int) - 1))).toList = ([] : List UInt8) then (if (wrap64 ((t194.length : Int) - 1)) ≤ (t194.length : Int) then (some (t194.take ((wrap64 ((t194.length : Int) - 1)) : Int).toNat)) else (none)) else (some t194)) else (none)) else (none)) = some r := H
 have A2 := zK A20
 clear A20
 obtain ⟨ji3, hji3⟩ : ∃ j_ : Int, (wrap64 ((t194.length : Int) - 1)) = j_ := ⟨_, rfl⟩
 replace H : (if 0 ≤ (ji3) then (if (ji3) < (t194.length : Int) then (if (rdOf ByteArray.empty t194 (ji3)).toList = ([] : List UInt8) then (if (ji3) ≤ (t194.length : Int) then (some (t194.take ((ji3) : Int).toNat)) else (none)) else (some t194)) else (none)) else (none)) = some r := by first | (rw [hji3] at H; exact H) | (simp only [hji3] at H ⊢; exact H)
 (try rw [hji3] at A2)
 have hji3w : (IntKind.i64.wrap ((t194.length : Int) - 1)) = ji3 := (i64_w _).trans hji3
 by_cases c4 : 0 ≤ (ji3)
 ·
  rw [if_pos c4] at H
  have c4b0 : decide (0 ≤ (ji3)) = true := decide_eq_true c4
  clear c4
  by_cases c5 : (ji3) < (t194.length : Int)
  ·
   rw [if_pos c5] at H
   have c5b0 : decide ((ji3) < (t194.length : Int)) = true := decide_eq_true c5
   clear c5
   by_cases c6 : (rdOf ByteArray.empty t194 (ji3)).toList = ([] : List UInt8)
   ·
    rw [if_pos c6] at H
    have c6b0 : ((rdOf ByteArray.empty t194 (ji3)).toList == ([] : List UInt8)) = true := beq_iff_eq.mpr c6
    have c6b1 : ((rdOf ByteArray.empty t194 (ji3)).toList != ([] : List UInt8)) = false := bne_eq_false_iff_eq.mpr c6
    clear c6
    by_cases c7 : (ji3) ≤ (t194.length : Int)
    ·
     rw [if_pos c7] at H
     have c7b0 := eq_true c7
     have c7b1 : decide ((ji3) ≤ (t194.length : Int)) = true := decide_eq_true c7
     clear c7
     obtain ⟨y198, hy198⟩ : ∃ y_ : List ByteArray, y_ = (t194.take ((ji3) : Int).toNat) := ⟨_, rfl⟩
     replace H : (some y198) = some r := by first | (rw [hy198]; with_reducible exact H) | (have H2_ := (Option.bind_some _ _).symm.trans H; rw [hy198]; with_reducible exact H2_) | (have H2_ := (Option.bind_some _ _).symm.trans H; with_reducible exact H2_) | with_reducible exact H | (rw [hy198]; exact H) | exact H
     have Ny198 := zK hy198
     clear hy198
     obtain rfl := Option.some.inj H
     go_enter Tryz.func163, Tryz.ntmps163
     go_wp2_with (first | ((with_reducible refine gate_callee (f := 217) rfl ?_); refine goesL_ (some 5) rfl rfl Tryz.func217 zq3 rfl #[.string a0, .string (⟨#[10]⟩ : ByteArray)] rfl zq1 ?_; (with_reducible refine (strings_SplitAfter.calls a0 (⟨#[10]⟩ : ByteArray) t194 _ A2.out).mono ?_); rintro e w8 ⟨v195, rfl, ho0, hb⟩; refine ⟨_, rfl, ?_⟩; have n0_ := zK (Kd.R_lower ho0 (below_size zq0)); have n1_ := zK (below_step zq0 hb); clear HB; have HO196 := n0_; have HB := n1_; clear n0_ n1_; (try clear hb); (try clear hb2); (try clear hk); (try clear hi); (try clear ho0); obtain ⟨Ao9, co9, eo9⟩ := Kd.R_slice HO196.out; subst eo9; have p197 : 0 ≤ ((ji3) : Int) := zX zq2; have q197 : (ji3) < (t194.length : Int) := zX zq2; obtain ⟨ad197, e197, hx197_0⟩ := Kd.at_string (Kd.R_reads' HO196.out).2.2 (ji3) p197 q197; cases e197; replace p197 := eq_true p197; replace q197 := eq_true q197; have q10 : ((ji3) : Int) ≤ ((t194.length : Int) : Int) := zX zq2; obtain ⟨i010, hi010, _, hsz10, _⟩ := info_parts info9; have hcut10 := cut_to (P := Tryz.prog) 46 9 .i64 Tryz.underlying46 hi010 (some ad197) t194.length co9 (ji3) (zX zq2) q10 (Kd.R_reads' HO196.out).2.1; have hr10 := Kd.R_take (m := ((ji3) : Int).toNat) HO196.out zq7; have hy10 : y198.length = ((ji3) : Int).toNat := (by rw [Ny198.out, List.length_take]; omega); rw [← Ny198.out] at hr10; rw [← hy10] at hr10 hcut10; clear hy10 hi010 hsz10 HO196; have HO200 := zK hr10; clear hr10; replace q10 := eq_true q10))
     go_ret
     exact ⟨_, zq30, (by (with_reducible repeat (first | apply zR | apply zV | apply zW)); exact HO200.out), zq0⟩
    rw [if_neg c7] at H
    exact absurd H zq16
   rw [if_neg c6] at H
   have c6b0 : ((rdOf ByteArray.empty t194 (ji3)).toList == ([] : List UInt8)) = false := beq_eq_false_iff_ne.mpr c6
   have c6b1 : ((rdOf ByteArray.empty t194 (ji3)).toList != ([] : List UInt8)) = true := bne_iff_ne.mpr c6
   obtain rfl := Option.some.inj H
   go_enter Tryz.func163, Tryz.ntmps163
   go_wp2_with (first | ((with_reducible refine gate_callee (f := 217) rfl ?_); refine goesL_ (some 5) rfl rfl Tryz.func217 zq3 rfl #[.string a0, .string (⟨#[10]⟩ : ByteArray)] rfl zq1 ?_; (with_reducible refine (strings_SplitAfter.calls a0 (⟨#[10]⟩ : ByteArray) t194 _ A2.out).mono ?_); rintro e w11 ⟨v195, rfl, ho0, hb⟩; refine ⟨_, rfl, ?_⟩; have n0_ := zK (Kd.R_lower ho0 (below_size zq0)); have n1_ := zK (below_step zq0 hb); clear HB; have HO196 := n0_; have HB := n1_; clear n0_ n1_; (try clear hb); (try clear hb2); (try clear hk); (try clear hi); (try clear ho0); obtain ⟨Ao12, co12, eo12⟩ := Kd.R_slice HO196.out; subst eo12; have p197 : 0 ≤ ((ji3) : Int) := zX zq2; have q197 : (ji3) < (t194.length : Int) := zX zq2; obtain ⟨ad197, e197, hx197_0⟩ := Kd.at_string (Kd.R_reads' HO196.out).2.2 (ji3) p197 q197; cases e197; replace p197 := eq_true p197; replace q197 := eq_true q197))
   go_ret
   exact ⟨_, zq30, (by (with_reducible repeat (first | apply zR | apply zV | apply zW)); exact HO196.out), zq0⟩
  rw [if_neg c5] at H
  exact absurd H zq16
 rw [if_neg c4] at H
 exact absurd H zq16
end Go.Proofs.YtkjgnnhpjcofiaaGreatDoor.PX

namespace Go.Proofs.YtkjgnnhpjcofiaaGreatDoorX
open Go Go.RowKit Go.Proofs.YtkjgnnhpjcofiaaGreatDoorW.PrintWords Go.Proofs.YtkjgnnhpjcofiaaGreatDoor.PX
set_option linter.unusedVariables false
set_option linter.unusedSimpArgs false
def saL : List UInt8 → List (List UInt8)
 | [] => [[]]
 | b :: l => if b = 10 then [10] :: saL l else match saL l with | [] => [[b]] | p :: ps => (b :: p) :: ps
def lnL : List UInt8 → List (List UInt8)
 | [] => []
 | b :: l => if b = 10 then [10] :: lnL l else match lnL l with | [] => [[b]] | p :: ps => (b :: p) :: ps
theorem saL_other {b : UInt8} {l p : List UInt8} {ps : List (List UInt8)} (hb : b ≠ 10) (h : saL l = p :: ps) : saL (b :: l) = (b :: p) :: ps := by
 rw [saL, if_neg hb, h]
theorem lnL_other {b : UInt8} {l p : List UInt8} {ps : List (List UInt8)} (hb : b ≠ 10) (h : lnL l = p :: ps) : lnL (b :: l) = (b :: p) :: ps := by
 rw [lnL, if_neg hb, h]
theorem lnL_ne : ∀ l, ∀ p ∈ lnL l, p ≠ []
 | [], p, hp => by cases hp
 | b :: l, p, hp => by
   unfold lnL at hp
   split at hp
   · rcases List.mem_cons.1 hp with rfl | h
     · simp
     · exact lnL_ne l p h
   · split at hp
     · rcases List.mem_cons.1 hp with rfl | h
       · simp
       · cases h
     · rename_i q qs hq
       rcases List.mem_cons.1 hp with rfl | h
       · simp
       · exact lnL_ne l p (by rw [hq]; exact List.mem_cons_of_mem _ h)
theorem saL_ln : ∀ l, (saL l = lnL l ++ [[]]) ∨ (saL l = lnL l ∧ lnL l ≠ [])
 | [] => .inl rfl
 | b :: l => by
   by_cases hb : b = 10
   · subst hb
     rw [saL, lnL, if_pos rfl, if_pos rfl]
     rcases saL_ln l with h | ⟨h, h2⟩
     · exact .inl (by rw [h]; rfl)
     · exact .inr ⟨by rw [h], by simp⟩
   · rcases saL_ln l with h | ⟨h, h2⟩
     · cases hl : lnL l with
       | nil =>
         rw [hl] at h
         exact .inr ⟨by rw [saL_other hb h, lnL, if_neg hb, hl], by rw [lnL, if_neg hb, hl]; simp⟩
       | cons p ps =>
         rw [hl] at h
         exact .inl (by rw [saL_other hb h, lnL_other hb hl]; rfl)
     · cases hl : lnL l with
       | nil => exact absurd hl h2
       | cons p ps =>
         rw [hl] at h
         exact .inr ⟨by rw [saL_other hb h, lnL_other hb hl], by rw [lnL_other hb hl]; simp⟩
theorem saL_miss : ∀ l : List UInt8, Lib.indexByte l 10 = -1 → saL l = [l]
 | [], _ => rfl
 | b :: l, h => by
   unfold Lib.indexByte at h
   by_cases hb : b = 10
   · subst hb
     simp at h
   · rw [if_neg (by simpa using hb)] at h
     by_cases h2 : Lib.indexByte l 10 = -1
     · exact saL_other hb (saL_miss l h2)
     · rw [if_neg (by simpa using h2)] at h
       have := Lib.indexByte_ge l 10
       omega
theorem saL_hit : ∀ (l : List UInt8) (i : Nat), Lib.indexByte l 10 = (i : Int) → saL l = l.take (i + 1) :: saL (l.drop (i + 1))
 | [], i, h => by
   unfold Lib.indexByte at h
   omega
 | b :: l, i, h => by
   unfold Lib.indexByte at h
   by_cases hb : b = 10
   · subst hb
     rw [if_pos zq13] at h
     have : i = 0 := by omega
     subst this
     rw [saL, if_pos rfl]
     rfl
   · rw [if_neg (by simpa using hb)] at h
     by_cases h2 : Lib.indexByte l 10 = -1
     · rw [if_pos (by simpa using h2)] at h
       omega
     · rw [if_neg (by simpa using h2)] at h
       have := Lib.indexByte_ge l 10
       obtain ⟨m, hm⟩ : ∃ m : Nat, Lib.indexByte l 10 = (m : Int) := ⟨(Lib.indexByte l 10).toNat, by omega⟩
       have e : i = m + 1 := by omega
       subst e
       exact saL_other hb (saL_hit l m hm)
def linesB (s : ByteArray) : List ByteArray := (lnL s.data.toList).map mkB
def saB (s : ByteArray) : List ByteArray := (saL s.data.toList).map mkB
theorem splitB_lines : ∀ (k : Nat) (s : ByteArray), Lib.countB s ⟨#[10]⟩ = k → Lib.splitB ⟨#[10]⟩ 1 k s = saB s
 | 0, s, hk => by
   rcases Lib.indexB_cases s ⟨#[10]⟩ with hix | ⟨i, hix, _⟩
   · unfold saB
     rw [saL_miss _ ((Lib.index_one _ _ : Lib.indexB s ⟨#[10]⟩ = Lib.indexByte s.data.toList 10).symm.trans hix)]
     show [s] = [mkB s.data.toList]
     rw [← mkB_of rfl]
   · have := Lib.countB_hit s ⟨#[10]⟩ i zq13 hix
     omega
 | k + 1, s, hk => by
   rcases Lib.indexB_cases s ⟨#[10]⟩ with hix | ⟨i, hix, hroom⟩
   · rw [Lib.countB_miss s ⟨#[10]⟩ hix] at hk; omega
   · rw [Lib.splitB_hit ⟨#[10]⟩ 1 k s i hix, splitB_lines k _ (by have := Lib.countB_hit s ⟨#[10]⟩ i zq13 hix; omega)]
     unfold saB
     rw [saL_hit _ i ((Lib.index_one _ _ : Lib.indexB s ⟨#[10]⟩ = Lib.indexByte s.data.toList 10).symm.trans hix), List.map_cons]
     congr 1
     · apply mkB_of
       rw [extract_list, List.drop_zero]
       rfl
     · congr 2
       rw [extract_list]
       apply List.take_of_length_le
       rw [List.length_drop, ← size_list]
       exact Nat.le_refl _
theorem splitAfter_lines (s : ByteArray) (hs : s.size < 4294967281) : strings_SplitAfter.f s ⟨#[10]⟩ = some (saB s) := by
 unfold strings_SplitAfter.f
 rw [if_pos (show (⟨#[10]⟩ : ByteArray).size = 1 from rfl), if_pos hs, splitB_lines _ s rfl]
theorem saB_le (s : ByteArray) (hs : s.size < 4294967281) : (saB s).length ≤ s.size + 1 := by
 rw [← splitB_lines _ s rfl]
 exact X.pieces_le s ⟨#[10]⟩ 1 rfl hs
theorem impl_lines (s : ByteArray) (hs : s.size < 4294967281) : impl_linesOf.f s = some (linesB s) := by
 unfold impl_linesOf.f
 rw [splitAfter_lines s hs, Option.bind_some]
 have hle := saB_le s hs
 have hpos : 0 < (saB s).length := by
  unfold saB
  rw [List.length_map]
  rcases saL_ln s.data.toList with h | ⟨h, h2⟩
  · rw [h]; simp
  · rw [h]; exact List.length_pos_iff.2 h2
 have w : wrap64 (((saB s).length : Int) - 1) = (((saB s).length - 1 : Nat) : Int) := (wrap_in zq7 zq7).trans zq7
 rw [w, if_pos zq7, if_pos zq7, rdOf_nat, Int.toNat_natCast]
 rcases saL_ln s.data.toList with h | ⟨h, h2⟩
 · have e : saB s = linesB s ++ [mkB []] := by
    unfold saB linesB
    rw [h, List.map_append]
    rfl
   have el : (saB s).length - 1 = (linesB s).length := by rw [e, List.length_append]; rfl
   have e0 : (saB s).getD ((saB s).length - 1) ByteArray.empty = mkB [] := by
    rw [el, e, List.getD_eq_getElem?_getD, List.getElem?_append_right (Nat.le_refl _), Nat.sub_self]
    rfl
   rw [e0, if_pos (by rw [toList_eq]; rfl), if_pos zq7, el, e]
   simp
 · have e : saB s = linesB s := by
    unfold saB linesB
    rw [h]
   rw [e] at hpos ⊢
   have hlt : (linesB s).length - 1 < (linesB s).length := by omega
   rw [if_neg]
   rw [List.getD_eq_getElem?_getD, List.getElem?_eq_getElem hlt, Option.getD_some, toList_eq]
   have hm : (linesB s)[(linesB s).length - 1] ∈ linesB s := List.getElem_mem hlt
   obtain ⟨p, hp, hq⟩ := List.mem_map.1 hm
   rw [← hq]
   exact lnL_ne _ p hp
theorem ln_hit : ∀ (m : Nat) (l : List UInt8), (∀ j, j < m → l.getD j 0 ≠ 10) → m < l.length → l.getD m 0 = 10 → lnL l = l.take (m + 1) :: lnL (l.drop (m + 1))
 | m, [], _, hm, _ => absurd hm (Nat.not_lt_zero _)
 | 0, b :: l, _, _, h => by
   have : b = 10 := h
   subst this
   rw [lnL, if_pos rfl]
   rfl
 | m + 1, b :: l, hj, hm, h => by
   have hb : b ≠ 10 := hj 0 (Nat.succ_pos _)
   exact lnL_other hb (ln_hit m l (fun j h' => hj (j + 1) zq7) (by simpa using hm) h)
theorem ln_miss : ∀ (l : List UInt8), (∀ j, j < l.length → l.getD j 0 ≠ 10) → l ≠ [] → lnL l = [l]
 | [], _, h => absurd rfl h
 | b :: l, hj, _ => by
   have hb : b ≠ 10 := hj 0 (Nat.succ_pos _)
   by_cases hl : l = []
   · subst hl
     rw [lnL, if_neg hb]
     rfl
   · exact lnL_other hb (ln_miss l (fun j h' => hj (j + 1) (by simpa using h')) hl)
theorem l1Split_from (s : ByteArray) (hs : s.size ≤ 1099511627776) : ∀ (d i : Nat), i + d = s.size → ∀ (out : List ByteArray) (fr : Nat), fr ≤ i → out.length ≤ fr → (∀ j, fr ≤ j → j < i → s.data.toList.getD j 0 ≠ 10) → ∀ k, d < k →
 spec_l1Split.l0 k s out (fr : Int) (i : Int) = some (out ++ (lnL (s.data.toList.drop fr)).map mkB)
 | 0, i, hi, out, fr, hf, ho, hn, k, hk => by
   obtain ⟨k, rfl⟩ : ∃ m, k = m + 1 := ⟨k - 1, by omega⟩
   have e : i = s.size := by omega
   subst e
   have hsl := size_list s
   rw [spec_l1Split.l0, if_neg zq7]
   by_cases hlt : fr < s.size
   · rw [if_pos zq7, if_pos zq7, if_pos zq7, if_pos zq7, ln_miss _ (fun j hj => by
      rw [List.length_drop] at hj
      rw [List.getD_eq_getElem?_getD, List.getElem?_drop, ← List.getD_eq_getElem?_getD]
      exact hn (fr + j) zq7 zq7) (fun z => by
       have := congrArg List.length z
       rw [List.length_drop] at this
       simp only [List.length_nil] at this
       omega)]
     rw [Int.toNat_natCast, List.map_cons, List.map_nil]
     congr 3
     apply mkB_of
     rw [extract_list]
     apply List.take_of_length_le
     rw [List.length_drop]
     omega
   · rw [if_neg zq7, List.drop_of_length_le zq7]
     simp [lnL]
 | d + 1, i, hi, out, fr, hf, ho, hn, k, hk => by
   obtain ⟨k, rfl⟩ : ∃ m, k = m + 1 := ⟨k - 1, by omega⟩
   have hsl := size_list s
   have w : wrap64 ((i : Int) + 1) = ((i + 1 : Nat) : Int) := (wrap_in zq7 zq7).trans zq7
   rw [spec_l1Split.l0, if_pos zq7, if_pos zq7, bt_nat, w]
   by_cases h10 : s.data.toList.getD i 0 = 10
   · rw [h10, if_pos zq13, if_pos zq7, if_pos zq7, if_pos zq7, if_pos zq7]
     rw [l1Split_from s hs d (i + 1) zq7 _ (i + 1) (Nat.le_refl _) (by rw [List.length_append]; show out.length + 1 ≤ i + 1; omega) (fun j h1 h2 => by omega) k zq7]
     rw [ln_hit (i - fr) (s.data.toList.drop fr) (fun j hj => by
      rw [List.getD_eq_getElem?_getD, List.getElem?_drop, ← List.getD_eq_getElem?_getD]
      exact hn (fr + j) zq7 zq7) (by rw [List.length_drop]; omega) (by
      rw [List.getD_eq_getElem?_getD, List.getElem?_drop, ← List.getD_eq_getElem?_getD, show fr + (i - fr) = i by omega]
      exact h10)]
     rw [List.drop_drop, show fr + (i - fr + 1) = i + 1 by omega, List.map_cons, List.append_assoc, Int.toNat_natCast, Int.toNat_natCast]
     congr 2
     rw [List.singleton_append]
     congr 1
     apply mkB_of
     rw [extract_list, show i + 1 - fr = i - fr + 1 by omega]
   · rw [if_neg (fun z => h10 (UInt8.toNat_inj.1 (by
      have : (s.data.toList.getD i 0).toNat = 10 := by omega
      rw [this]; rfl)))]
     exact l1Split_from s hs d (i + 1) zq7 out fr zq7 ho (fun j h1 h2 => by
      by_cases e : j = i
      · rw [e]; exact h10
      · exact hn j h1 zq7) k zq7
theorem spec_lines (s : ByteArray) (hs : s.size ≤ 1099511627776) (k : Nat) (hk : s.size < k) : spec_l1Split.f k s = some (linesB s) :=
 l1Split_from s hs s.size 0 zq7 [] 0 (Nat.le_refl _) (Nat.le_refl _) (fun j h1 h2 => absurd h2 (Nat.not_lt_zero _)) k hk
end Go.Proofs.YtkjgnnhpjcofiaaGreatDoorX

namespace Go.Proofs.YtkjgnnhpjcofiaaGreatDoor.PX
open Go.RowKit Go.Proofs.YtkjgnnhpjcofiaaGreatDoorW.PrintWords Go.Proofs.YtkjgnnhpjcofiaaGreatDoorW.PrintLast Go.Proofs.YtkjgnnhpjcofiaaGreatDoorW.PrintMore
attribute [local go_sem] max2_int min2_int max_two min_two max_three min_three max_four min_four   -- for this text's walks alone
set_option linter.unusedVariables false
set_option linter.unusedSimpArgs false
def impl_TextFault.f (a0 : ByteArray) : Option (Int) := if (a0.size : Int) > 2000 then (some 2) else ((impl_linesOf.f a0).bind fun t201 => (if (t201.length : Int) > 100 then (some 2) else (some 0)))
set_option maxHeartbeats 8000000 in
set_option maxRecDepth 100000 in
theorem impl_TextFault.calls (a0 : ByteArray) (r : Int) (w : World) (h : impl_TextFault.f a0 = some r) :
  Calls Tryz.prog 122 #[.string a0] w fun e w' => e = .returned (.int .i64 r) ∧ Below w.heap.size w w' := by
 have HB := zK (Below.refl w.heap.size w)
 have H : (if (a0.size : Int) > 2000 then (some 2) else ((impl_linesOf.f a0).bind fun t201 => (if (t201.length : Int) > 100 then (some 2) else (some 0)))) = some r := h
 clear h
 by_cases c2 : (a0.size : Int) > 2000
 ·
  rw [if_pos c2] at H
  have c2b0 : decide (2000 < (a0.size : Int)) = true := decide_eq_true c2
  have c2b1 : decide (2000 < a0.size) = true := decide_eq_true zq7
  clear c2
  obtain rfl := Option.some.inj H
  go_enter Tryz.func122, Tryz.ntmps122
  go_wp2
  go_ret
  exact ⟨zq5, zq0⟩
 rw [if_neg c2] at H
 have c2b0 : decide (2000 < (a0.size : Int)) = false := decide_eq_false c2
 have c2b1 : decide (2000 < a0.size) = false := decide_eq_false zq7
 clear c2
 replace H := Option.bind_eq_some_iff.mp H
 obtain ⟨t201, A30, H⟩ := H
 replace H : (if (t201.length : Int) > 100 then (some 2) else (some 0)) = some r := H
 have A3 := zK A30
 clear A30
 by_cases c4 : (t201.length : Int) > 100
 ·
  rw [if_pos c4] at H
  have c4b0 : decide (100 < (t201.length : Int)) = true := decide_eq_true c4
  have c4b1 : decide (100 < t201.length) = true := decide_eq_true zq7
  clear c4
  obtain rfl := Option.some.inj H
  go_enter Tryz.func122, Tryz.ntmps122
  go_wp2_with (first | (go_at_call 163; (with_reducible refine (impl_linesOf.calls a0 t201 _ A3.out).mono ?_); rintro e w5 ⟨v202, rfl, ho0, hb⟩; have n0_ := zK (Kd.R_lower ho0 (below_size zq0)); have n1_ := zK (below_step zq0 hb); clear HB; have HO203 := n0_; have HB := n1_; clear n0_ n1_; (try clear hb); (try clear hb2); (try clear hk); (try clear hi); (try clear ho0); obtain ⟨Ao6, co6, eo6⟩ := Kd.R_slice HO203.out; subst eo6))
  go_ret
  exact ⟨zq5, zq0⟩
 rw [if_neg c4] at H
 have c4b0 : decide (100 < (t201.length : Int)) = false := decide_eq_false c4
 have c4b1 : decide (100 < t201.length) = false := decide_eq_false zq7
 clear c4
 obtain rfl := Option.some.inj H
 go_enter Tryz.func122, Tryz.ntmps122
 go_wp2_with (first | (go_at_call 163; (with_reducible refine (impl_linesOf.calls a0 t201 _ A3.out).mono ?_); rintro e w7 ⟨v202, rfl, ho0, hb⟩; have n0_ := zK (Kd.R_lower ho0 (below_size zq0)); have n1_ := zK (below_step zq0 hb); clear HB; have HO203 := n0_; have HB := n1_; clear n0_ n1_; (try clear hb); (try clear hb2); (try clear hk); (try clear hi); (try clear ho0); obtain ⟨Ao8, co8, eo8⟩ := Kd.R_slice HO203.out; subst eo8))
 go_ret
 exact ⟨zq5, zq0⟩
end Go.Proofs.YtkjgnnhpjcofiaaGreatDoor.PX

namespace Go.Proofs.YtkjgnnhpjcofiaaGreatDoorX
open Go Go.RowKit Go.Proofs.YtkjgnnhpjcofiaaGreatDoorW.PrintWords Go.Proofs.YtkjgnnhpjcofiaaGreatDoor.PX
set_option linter.unusedVariables false
set_option linter.unusedSimpArgs false
def textV (s : ByteArray) : Int := if s.size > 2000 then 2 else if (linesB s).length > 100 then 2 else 0
theorem spec_text (s : ByteArray) (k : Nat) (hk : 2000 < k) : spec_TextFault.f k s = some (textV s) := by
 unfold spec_TextFault.f textV
 by_cases h : s.size > 2000
 · rw [if_pos zq7, if_pos h]
 · rw [if_neg zq7, if_neg h, spec_lines s zq7 k zq7, Option.bind_some]
   by_cases h2 : (linesB s).length > 100
   · rw [if_pos zq7, if_pos h2]
   · rw [if_neg zq7, if_neg h2]
theorem impl_text (s : ByteArray) : impl_TextFault.f s = some (textV s) := by
 unfold impl_TextFault.f textV
 by_cases h : s.size > 2000
 · rw [if_pos zq7, if_pos h]
 · rw [if_neg zq7, if_neg h, impl_lines s zq7, Option.bind_some]
   by_cases h2 : (linesB s).length > 100
   · rw [if_pos zq7, if_pos h2]
   · rw [if_neg zq7, if_neg h2]
end Go.Proofs.YtkjgnnhpjcofiaaGreatDoorX

namespace Go.Proofs.YtkjgnnhpjcofiaaGreatDoor.PX
open Go.RowKit Go.Proofs.YtkjgnnhpjcofiaaGreatDoorW.PrintWords Go.Proofs.YtkjgnnhpjcofiaaGreatDoorW.PrintLast Go.Proofs.YtkjgnnhpjcofiaaGreatDoorW.PrintMore
attribute [local go_sem] max2_int min2_int max_two min_two max_three min_three max_four min_four   -- for this text's walks alone
set_option linter.unusedVariables false
set_option linter.unusedSimpArgs false
def strings_Split.f (a0 : ByteArray) (a1 : ByteArray) : Option (List (ByteArray)) := if a1.size = 1 then (if a0.size < 4294967281 then some (Lib.splitB a1 0 (Lib.countB a0 a1) a0) else none) else none
set_option maxHeartbeats 1000000 in
theorem strings_Split.calls (a0 : ByteArray) (a1 : ByteArray) (r : List (ByteArray)) (w : World) (h : strings_Split.f a0 a1 = some r) :
  Calls Tryz.prog 137 #[.string a0, .string a1] w fun e w' => ∃ v0_ : Value, e = .returned (v0_) ∧ Kd.R Kd.string 9 w' w.heap.size (fun _ => True) v0_ r ∧ Below w.heap.size w w' := by
 unfold strings_Split.f at h
 by_cases h1 : a1.size = 1
 ·
  rw [if_pos h1] at h
  by_cases h2 : a0.size < 4294967281
  ·
   rw [if_pos h2] at h
   obtain rfl := Option.some.inj h
   have HL := Lib.hid (X.pieces_le a0 a1 0 h1 h2)
   have H2 := Lib.hid h2
   have HC := Lib.hid (X.genSplit_one a0 a1 0 w h1 zq13 h2)
   clear h h2
   have H1 := Lib.hid h1
   have hi : (a1.size : Int) = 1 := by omega
   clear h1
   go_enter Tryz.func137, Tryz.ntmps137
   go_wp2_with (go_at_call 191; refine HC.out.mono ?_; rintro e w' ⟨rfl, rfl⟩)
   go_ret
   refine ⟨_, rfl, ?_, (Below.refl _ _).alloc (Nat.le_refl _) _⟩
   exact X.row_strings w _ (by have := HL.out; have := H2.out; omega)
  rw [if_neg h2] at h
  cases h
 rw [if_neg h1] at h
 cases h
end Go.Proofs.YtkjgnnhpjcofiaaGreatDoor.PX

namespace Go.Proofs.YtkjgnnhpjcofiaaGreatDoorX
open Go Go.RowKit Go.Proofs.YtkjgnnhpjcofiaaGreatDoorW.PrintWords Go.Proofs.YtkjgnnhpjcofiaaGreatDoor.PX
def spL : List UInt8 → List (List UInt8)
 | [] => [[]]
 | b :: l => if b = 32 then [] :: spL l else match spL l with | [] => [[b]] | p :: ps => (b :: p) :: ps
theorem spL_some : ∀ l, ∃ p ps, spL l = p :: ps
 | [] => ⟨[], [], rfl⟩
 | b :: l => by
   unfold spL
   split
   · exact ⟨_, _, rfl⟩
   · split <;> exact ⟨_, _, rfl⟩
theorem spL_other {b : UInt8} {l p : List UInt8} {ps : List (List UInt8)} (hb : b ≠ 32) (h : spL l = p :: ps) : spL (b :: l) = (b :: p) :: ps := by
 rw [spL, if_neg hb, h]
def wordsB (s : ByteArray) : List ByteArray := (spL s.data.toList).map mkB
theorem spL_miss : ∀ l : List UInt8, Lib.indexByte l 32 = -1 → spL l = [l]
 | [], _ => rfl
 | b :: l, h => by
   unfold Lib.indexByte at h
   by_cases hb : b = 32
   · subst hb
     simp at h
   · rw [if_neg (by simpa using hb)] at h
     by_cases h2 : Lib.indexByte l 32 = -1
     · exact spL_other hb (spL_miss l h2)
     · rw [if_neg (by simpa using h2)] at h
       have := Lib.indexByte_ge l 32
       omega
theorem spL_hit : ∀ (l : List UInt8) (i : Nat), Lib.indexByte l 32 = (i : Int) → spL l = l.take i :: spL (l.drop (i + 1))
 | [], i, h => by
   unfold Lib.indexByte at h
   omega
 | b :: l, i, h => by
   unfold Lib.indexByte at h
   by_cases hb : b = 32
   · subst hb
     rw [if_pos zq13] at h
     have : i = 0 := by omega
     subst this
     rw [spL, if_pos rfl]
     rfl
   · rw [if_neg (by simpa using hb)] at h
     by_cases h2 : Lib.indexByte l 32 = -1
     · rw [if_pos (by simpa using h2)] at h
       omega
     · rw [if_neg (by simpa using h2)] at h
       have := Lib.indexByte_ge l 32
       obtain ⟨m, hm⟩ : ∃ m : Nat, Lib.indexByte l 32 = (m : Int) := ⟨(Lib.indexByte l 32).toNat, by omega⟩
       have e : i = m + 1 := by omega
       subst e
       exact spL_other hb (spL_hit l m hm)
theorem index_sp (s : ByteArray) : Lib.indexB s ⟨#[32]⟩ = Lib.indexByte s.data.toList 32 := Lib.index_one _ _
theorem splitB_words : ∀ (k : Nat) (s : ByteArray), Lib.countB s ⟨#[32]⟩ = k → Lib.splitB ⟨#[32]⟩ 0 k s = wordsB s
 | 0, s, hk => by
   rcases Lib.indexB_cases s ⟨#[32]⟩ with hix | ⟨i, hix, _⟩
   · unfold wordsB
     rw [spL_miss _ ((index_sp s).symm.trans hix)]
     show [s] = [mkB s.data.toList]
     rw [← mkB_of rfl]
   · have := Lib.countB_hit s ⟨#[32]⟩ i zq13 hix
     omega
 | k + 1, s, hk => by
   rcases Lib.indexB_cases s ⟨#[32]⟩ with hix | ⟨i, hix, hroom⟩
   · rw [Lib.countB_miss s ⟨#[32]⟩ hix] at hk; omega
   · rw [Lib.splitB_hit ⟨#[32]⟩ 0 k s i hix, splitB_words k _ (by have := Lib.countB_hit s ⟨#[32]⟩ i zq13 hix; omega)]
     unfold wordsB
     rw [spL_hit _ i ((index_sp s).symm.trans hix), List.map_cons]
     congr 1
     · apply mkB_of
       rw [extract_list, List.drop_zero]
       rfl
     · congr 2
       rw [extract_list]
       apply List.take_of_length_le
       rw [List.length_drop, ← size_list]
       exact Nat.le_refl _
theorem l6Split_from (s : ByteArray) (hs : s.size ≤ 1099511627776) : ∀ (d i : Nat), i + d = s.size → ∀ (out : List ByteArray) (fr : Nat), fr ≤ i → out.length ≤ fr → ∀ (p : List UInt8) (ps : List (List UInt8)), spL (s.data.toList.drop i) = p :: ps → ∀ k, d + 2 < k →
 spec_l6Split.l0 k s out (fr : Int) (i : Int) = some (out ++ mkB ((s.data.toList.drop fr).take (i - fr) ++ p) :: ps.map mkB)
 | 0, i, hi, out, fr, hf, ho, p, ps, hp, k, hk => by
   obtain ⟨k, rfl⟩ : ∃ m, k = m + 2 := ⟨k - 2, by omega⟩
   have e : i = s.size := by omega
   subst e
   rw [List.drop_of_length_le (by rw [← size_list]; exact Nat.le_refl _)] at hp
   obtain ⟨rfl, rfl⟩ := List.cons.inj hp
   rw [spec_l6Split.l0, if_pos zq7, if_pos rfl, if_pos zq7, if_pos zq7, if_pos zq7, wrap_in zq7 zq7, spec_l6Split.l0, if_neg zq7]
   rw [List.append_nil, Int.toNat_natCast, Int.toNat_natCast, ← extract_list, ← mkB_of rfl]
   rfl
 | d + 1, i, hi, out, fr, hf, ho, p, ps, hp, k, hk => by
   obtain ⟨k, rfl⟩ : ∃ m, k = m + 1 := ⟨k - 1, by omega⟩
   have hlt : i < s.data.toList.length := by rw [← size_list]; omega
   have eb : s.data.toList.getD i 0 = s.data.toList[i] := by rw [List.getD_eq_getElem?_getD, List.getElem?_eq_getElem hlt, Option.getD_some]
   rw [List.drop_eq_getElem_cons hlt] at hp
   rw [spec_l6Split.l0, if_pos zq7, if_neg zq7, if_pos zq7, if_pos zq7, bt_nat, eb]
   generalize hb : s.data.toList[i] = b at hp
   obtain ⟨q, qs, hq⟩ := spL_some (s.data.toList.drop (i + 1))
   by_cases h32 : b = 32
   · subst h32
     rw [spL, if_pos rfl] at hp
     obtain ⟨rfl, rfl⟩ := List.cons.inj hp
     rw [if_pos zq13, if_pos zq7, if_pos zq7, if_pos zq7, wrap_in zq7 zq7, show ((i : Int) + 1) = ((i + 1 : Nat) : Int) from rfl]
     rw [l6Split_from s hs d (i + 1) zq7 _ (i + 1) (Nat.le_refl _) (by rw [List.length_append]; show out.length + 1 ≤ i + 1; omega) q qs hq k zq7]
     rw [Nat.sub_self, List.take_zero, List.nil_append, List.append_nil, hq, Int.toNat_natCast, Int.toNat_natCast, List.append_assoc, ← extract_list, ← mkB_of rfl]
     rfl
   · rw [spL_other h32 hq] at hp
     obtain ⟨rfl, rfl⟩ := List.cons.inj hp
     rw [if_neg (fun z => h32 (UInt8.toNat_inj.1 (by have : b.toNat = 32 := by omega
                                                     rw [this]; rfl))), wrap_in zq7 zq7, show ((i : Int) + 1) = ((i + 1 : Nat) : Int) from rfl]
     rw [l6Split_from s hs d (i + 1) zq7 _ fr zq7 ho q qs hq k zq7]
     congr 3
     rw [show i + 1 - fr = (i - fr) + 1 by omega, List.take_succ_eq_append_getElem (by rw [List.length_drop]; omega), List.append_assoc, List.getElem_drop]
     simp only [show fr + (i - fr) = i by omega]
     rw [hb]
     rfl
theorem spec_words (s : ByteArray) (hs : s.size ≤ 1099511627776) (k : Nat) (hk : s.size + 2 < k) : spec_l6Split.f k s = some (wordsB s) := by
 obtain ⟨p, ps, hp⟩ := spL_some s.data.toList
 unfold spec_l6Split.f wordsB
 rw [hp]
 exact l6Split_from s hs s.size 0 zq7 [] 0 (Nat.le_refl _) (Nat.le_refl _) p ps hp k hk
theorem split_words (s : ByteArray) (hs : s.size < 4294967281) : strings_Split.f s ⟨#[32]⟩ = some (wordsB s) := by
 unfold strings_Split.f
 rw [if_pos (show (⟨#[32]⟩ : ByteArray).size = 1 from rfl), if_pos hs, splitB_words _ s rfl]
def joinS : List (List UInt8) → List UInt8
 | [] => []
 | [p] => p
 | p :: q :: ps => p ++ 32 :: joinS (q :: ps)
theorem spL_join : ∀ l, joinS (spL l) = l
 | [] => rfl
 | b :: l => by
   have ih := spL_join l
   obtain ⟨p, ps, hp⟩ := spL_some l
   rw [hp] at ih
   by_cases hb : b = 32
   · subst hb
     rw [spL, if_pos rfl, hp]
     show [] ++ 32 :: joinS (p :: ps) = _
     rw [ih]
     rfl
   · rw [spL_other hb hp]
     cases ps with
     | nil =>
       show b :: p = _
       rw [show p = l from ih]
     | cons q qs =>
       show b :: (p ++ 32 :: joinS (q :: qs)) = _
       rw [show p ++ 32 :: joinS (q :: qs) = l from ih]
end Go.Proofs.YtkjgnnhpjcofiaaGreatDoorX

namespace Go.Proofs.YtkjgnnhpjcofiaaGreatDoor.PX
open Go.RowKit Go.Proofs.YtkjgnnhpjcofiaaGreatDoorW.PrintWords Go.Proofs.YtkjgnnhpjcofiaaGreatDoorW.PrintLast Go.Proofs.YtkjgnnhpjcofiaaGreatDoorW.PrintMore
attribute [local go_sem] max2_int min2_int max_two min_two max_three min_three max_four min_four   -- for this text's walks alone
set_option linter.unusedVariables false
set_option linter.unusedSimpArgs false
def impl_dataCode.f (k : Nat) (a0 : Int) (a1 : ByteArray) : Option (Int) := (impl_isKind.f a0).bind fun t204 => ((impl_codeIf.f (!t204) 3).bind fun t205 => ((impl_TextFault.f a1).bind fun t206 => ((impl_firstCode.f k (([t205, t206] : List Int))).bind fun t210 => (some t210))))
set_option maxHeartbeats 8000000 in
set_option maxRecDepth 100000 in
theorem impl_dataCode.calls (k : Nat) (a0 : Int) (a1 : ByteArray) (r : Int) (w : World) (h : impl_dataCode.f k a0 a1 = some r) :
  Calls Tryz.prog 75 #[.int .i64 a0, .string a1] w fun e w' => e = .returned (.int .i64 r) ∧ Below w.heap.size w w' := by
 have HB := zK (Below.refl w.heap.size w)
 have H : ((impl_isKind.f a0).bind fun t204 => ((impl_codeIf.f (!t204) 3).bind fun t205 => ((impl_TextFault.f a1).bind fun t206 => ((impl_firstCode.f k (([t205, t206] : List Int))).bind fun t210 => (some t210))))) = some r := h
 clear h
 replace H := Option.bind_eq_some_iff.mp H
 obtain ⟨t204, A30, H⟩ := H
 replace H : ((impl_codeIf.f (!t204) 3).bind fun t205 => ((impl_TextFault.f a1).bind fun t206 => ((impl_firstCode.f k (([t205, t206] : List Int))).bind fun t210 => (some t210)))) = some r := H
 have A3 := zK A30
 clear A30
 replace H := Option.bind_eq_some_iff.mp H
 obtain ⟨t205, A40, H⟩ := H
 replace H : ((impl_TextFault.f a1).bind fun t206 => ((impl_firstCode.f k (([t205, t206] : List Int))).bind fun t210 => (some t210))) = some r := H
 have A4 := zK A40
 clear A40
 replace H := Option.bind_eq_some_iff.mp H
 obtain ⟨t206, A50, H⟩ := H
 replace H : ((impl_firstCode.f k (([t205, t206] : List Int))).bind fun t210 => (some t210)) = some r := H
 have A5 := zK A50
 clear A50
 obtain ⟨y207, hy207⟩ : ∃ y_ : List Int, y_ = (([t205, t206] : List Int)) := ⟨_, rfl⟩
 replace H : ((impl_firstCode.f k y207).bind fun t210 => (some t210)) = some r := by first | (rw [hy207]; with_reducible exact H) | (have H2_ := (Option.bind_some _ _).symm.trans H; rw [hy207]; with_reducible exact H2_) | (have H2_ := (Option.bind_some _ _).symm.trans H; with_reducible exact H2_) | with_reducible exact H | (rw [hy207]; exact H) | exact H
 have Ny207 := zK hy207
 clear hy207
 replace H := Option.bind_eq_some_iff.mp H
 obtain ⟨t210, A60, H⟩ := H
 replace H : (some t210) = some r := H
 have A6 := zK A60
 clear A60
 obtain rfl := Option.some.inj H
 go_enter Tryz.func75, Tryz.ntmps75
 go_wp2_with (first | ((with_reducible refine gate_callee (f := 121) rfl ?_); refine goesL_ (some 6) rfl rfl Tryz.func121 zq3 rfl #[.int .i64 a0] rfl zq1 ?_; (with_reducible refine (impl_isKind.calls a0 t204 _ A3.out).mono ?_); rintro e w' ⟨rfl, ⟨nd, rfl⟩⟩; refine ⟨_, rfl, ?_⟩) | ((with_reducible refine gate_callee (f := 66) rfl ?_); refine goesL_ (some 8) rfl rfl Tryz.func66 zq3 rfl #[.bool (!t204), .int .i64 3] rfl zq1 ?_; (with_reducible refine (impl_codeIf.calls (!t204) 3 t205 _ A4.out).mono ?_); rintro e w' ⟨rfl, ⟨nd, rfl⟩⟩; refine ⟨_, rfl, ?_⟩) | ((with_reducible refine gate_callee (f := 122) rfl ?_); refine goesL_ (some 10) rfl rfl Tryz.func122 zq3 rfl #[.string a1] rfl zq1 ?_; (with_reducible refine (impl_TextFault.calls a1 t206 _ A5.out).mono ?_); rintro e w7 ⟨rfl, hb⟩; refine ⟨_, rfl, ?_⟩; have n0_ := zK (below_step zq0 hb); clear HB; have HB := n0_; clear n0_; (try clear hb); (try clear hb2); (try clear hk); (try clear hi)) | ((with_reducible refine gate_dst (N := 11) rfl ?_); refine Kd.R_lit (Kd.int .i64) _ 2 ?hg (N := 11) ?hd (xs := ([t205, t206] : List Int)) (inner := [.int .i64 t205, .int .i64 t206]) (ok := fun _ => True) (okp := fun _ => True) ?hr ?hp (fun _ hk => hk) trivial (Below.refl _ _) (Nat.le_refl _) zq16 ?_; (case hd => rfl); (case hg => rfl); (case hr => first | (go_simp; done) | (go_simp; rfl)); (case hp => exact (Reps.one (show Kd.M (Kd.int .i64) _ _ _ t205 [.int .i64 t205] from rfl) (Reps.one (show Kd.M (Kd.int .i64) _ _ _ t206 [.int .i64 t206] from rfl) (Reps.none _ _)))); intro v208 w8 ho9 hb hg_ hnew_; clear hg_ hnew_; (first | rw [← Ny207.out] at ho9 | (simp only [Int.reduceToNat] at ho9; rw [← Ny207.out] at ho9)); have n0_ := zK (Kd.R_lower ho9 (below_size zq0)); have n1_ := zK (below_step zq0 hb); clear HB; have HO209 := n0_; have HB := n1_; clear n0_ n1_; clear hb ho9; obtain ⟨Ao10, co10, eo10⟩ := Kd.R_slice HO209.out; subst eo10) | ((with_reducible refine gate_callee (f := 52) rfl ?_); refine goesL_ (some 12) rfl rfl Tryz.func52 zq3 rfl #[.slice Ao10 y207.length co10] rfl zq1 ?_; (with_reducible refine (impl_firstCode.calls k _ _ y207 t210 _ ?side1 ?side2 A6.out).mono ?_); (case side1 => repeat (first | exact (Kd.R_reads' HO209.out).2.2 | (with_reducible refine Kd.C_alloc ?_ _) | (with_reducible refine Kd.C_drewN ?_ _) | (with_reducible refine Kd.C_drew ?_))); (case side2 => exact (Kd.R_reads' HO209.out).2.1); rintro e w' ⟨rfl, ⟨nd, rfl⟩⟩; refine ⟨_, rfl, ?_⟩))
 go_ret
 exact ⟨zq5, zq0⟩
end Go.Proofs.YtkjgnnhpjcofiaaGreatDoor.PX
