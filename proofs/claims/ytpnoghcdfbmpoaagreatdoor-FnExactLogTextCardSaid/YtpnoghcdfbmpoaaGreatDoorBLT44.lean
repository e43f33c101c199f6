/- Texts of this claim set one behind another by wip/bundle.py: XLogL. -/
import Derived.Test.YtpnoghcdfbmpoaaGreatDoorBLT25
import Derived.Test.YtpnoghcdfbmpoaaGreatDoorBLT38
import Derived.Test.YtpnoghcdfbmpoaaGreatDoorBLT6
import Derived.Test.YtpnoghcdfbmpoaaGreatDoorBLT8
import Derived.Test.YtpnoghcdfbmpoaaGreatDoorBLT10
import Derived.Shelf.Small.Strs
namespace Go.Proofs.YtpnoghcdfbmpoaaGreatDoor.PX.X
open Go Go.RowKit Go.Lib Go.Proofs.YtpnoghcdfbmpoaaGreatDoorW.PrintWords Go.Proofs.YtpnoghcdfbmpoaaGreatDoor.PX
set_option linter.unusedVariables false
set_option linter.unusedSimpArgs false
set_option maxHeartbeats 4000000 in
set_option maxRecDepth 100000 in
theorem litL (M : CoL) (gm b : Nat) (x y : ByteArray) (W : World) (hc : W.cell? ⟨gm, 0, none⟩ = some (.map (some b))) (hm : CoMap W b M) (hx : x.size ≤ 9223372036854775807) (hy : y.size ≤ 9223372036854775807) (hb : ∀ z, 0 ≤ (coV M z).1 ∧ (coV M z).1 ≤ 1000000000000) :
 Calls Tryz.prog 51 #[.string x, .string y, .pointer (some ⟨gm, 0, none⟩)] W fun e w' => e = .returned (.int .i64 (cfL (fun z => (coV M z).1) x y)) ∧ ∃ q, w' = W.drewN q := by
 obtain ⟨a1, A1, l1, c1, hlx⟩ := co_look hm x (by unfold maxLen; omega)
 obtain ⟨a2, A2, l2, c2, hly⟩ := co_look hm y (by unfold maxLen; omega)
 have hbx := hb x
 have hby := hb y
 have hcmp : Calls Tryz.prog 52 #[.string y, .string x] W fun e w' => e = .returned (.int .i64 (Lib.compareBytes y.data.toList x.data.toList)) ∧ W = w' := (Any.strings_Compare Tryz.lays106 y x W).mono fun e w' ⟨he, hw⟩ => ⟨he, hw.symm⟩
 have HC := Lib.hid hcmp
 clear hcmp
 clear hm hb hx hy
 show Calls _ _ _ _ fun e w' => e = .returned (.int .i64 (if (coV M y).1 - (coV M x).1 = 0 then Lib.compareBytes y.data.toList x.data.toList else (coV M y).1 - (coV M x).1)) ∧ ∃ q, w' = W.drewN q
 generalize (coV M x).1 = tx at hlx hbx ⊢
 generalize (coV M y).1 = ty at hly hby ⊢
 generalize (coV M x).2 = nx at hlx
 generalize (coV M y).2 = ny at hly
 generalize Lib.compareBytes y.data.toList x.data.toList = cb at HC ⊢
 have hw : wrap64 (ty - tx) = ty - tx := YtpnoghcdfbmpoaaGreatDoorX.wrap_in zq7 zq7
 have hw2 : IntKind.i64.wrap (ty - tx) = ty - tx := (YtpnoghcdfbmpoaaGreatDoorW.PrintLast.i64_w _).trans hw
 have hf1 := field_time a1 A1 l1 c1 tx nx
 have hf2 := field_time a2 A2 l2 c2 ty ny
 by_cases hz : ty - tx = 0
 · rw [if_pos hz]
   have hz1 : (ty - tx == 0) = true := beq_iff_eq.mpr hz
   have hz2 : (ty - tx != 0) = false := bne_eq_false_iff_eq.mpr hz
   clear hz hbx hby
   go_enter Tryz.func51, Tryz.ntmps51
   go_wp2_with (go_at_call 52; (with_reducible refine HC.out.mono ?_); rintro e w' ⟨rfl, rfl⟩)
   go_ret
   exact ⟨rfl, 0, rfl⟩
 · rw [if_neg hz]
   have hz1 : (ty - tx == 0) = false := beq_eq_false_iff_ne.mpr hz
   have hz2 : (ty - tx != 0) = true := bne_iff_ne.mpr hz
   clear hz hbx hby
   go_enter Tryz.func51, Tryz.ntmps51
   go_wp2
   go_ret
   exact ⟨rfl, 0, rfl⟩
theorem l1_eg (args : Array Value) (w : World) : (callFunc 51 args).run Tryz.prog w = .ok (.enter 51 args) w := enters_of Tryz.func51 zq6 rfl args w
end Go.Proofs.YtpnoghcdfbmpoaaGreatDoor.PX.X
