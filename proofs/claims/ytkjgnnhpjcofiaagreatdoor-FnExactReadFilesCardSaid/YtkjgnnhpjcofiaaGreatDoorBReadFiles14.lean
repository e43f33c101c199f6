/- Texts of this claim set one behind another by wip/bundle.py: PXx0, PXf39, PXf8, PXf63, PXf117, PXf159, PXf118, PXf133, PXf168, PXf119, PXf72, PXf132, PXf82, PXf140, PXf190, PXf131, XName, PXf136, PXf87, PXf67, PXf235, PXf170, PXf169, PXf272, PXf234, PXf176, PXf211, PXf177, PXf46, XMark, PXf45, PXf13. -/
import Derived.Test.YtkjgnnhpjcofiaaGreatDoorProg
import Derived.Below
import Derived.Deep.Draws
import Derived.Deep.AppendLies
import Derived.Maps.AppendAt
import Derived.OwnWalk
import Derived.Laws.BytesArg
import Derived.Laws.MakeOwn
import Derived.Laws.OwnMore
import Derived.Deep.OwnRows
import Derived.Tactics
import Derived.Lib.ConvBytes
import Derived.Laws.Slices
import Derived.WalkKit
import Derived.KernelRfl
import Derived.RowKit3
import Derived.Deep.LoopGhost
import Derived.Deep.QuietTactic
import Derived.BigQuiet
import Derived.WideLaws
import Derived.Deep.DeepCutAuto
import Derived.Deep.CutBlock
import Derived.Deep.RegionHeld3
import Derived.Laws.Rows
import Derived.Lib.AppendStr
import Derived.ArgAppend
import Derived.Laws.IdiomCopy
import Derived.OrdersHeld
import Derived.Laws.BitsLemmas
import Derived.RowKit
import Derived.Test.YtkjgnnhpjcofiaaGreatDoorBReadFiles9
import Derived.Test.YtkjgnnhpjcofiaaGreatDoorBReadFiles5
import Derived.Test.YtkjgnnhpjcofiaaGreatDoorBReadFiles11
import Derived.Test.YtkjgnnhpjcofiaaGreatDoorBReadFiles10
namespace Go.Proofs.YtkjgnnhpjcofiaaGreatDoor.PX
open Go.RowKit Go.Proofs.YtkjgnnhpjcofiaaGreatDoorW.PrintWords Go.Proofs.YtkjgnnhpjcofiaaGreatDoorW.PrintLast Go.Proofs.YtkjgnnhpjcofiaaGreatDoorW.PrintMore
attribute [local go_sem] max2_int min2_int max_two min_two max_three min_three max_four min_four   -- for this text's walks alone
set_option linter.unusedVariables false
set_option linter.unusedSimpArgs false
def errW : Option Int → Value
 | none => .nilIface
 | some c => .iface 275 (.int .i64 c)
theorem errW_none : errW none = .nilIface := rfl
theorem errW_some (c : Int) : errW (some c) = .iface 275 (.int .i64 c) := rfl
theorem info9 : (Tryz.prog.info? 9).map (fun i => (i.zero, i.size, i.bytes)) = some (some (.string ⟨#[]⟩), 1, 16) := by kernel_rfl
theorem info65 : (Tryz.prog.info? 65).map (fun i => (i.zero, i.size, i.bytes)) = some (some (.agg #[(.string ⟨#[]⟩), (.int .i64 0), (.string ⟨#[]⟩)]), 3, 40) := by kernel_rfl
theorem info75 : (Tryz.prog.info? 75).map (fun i => (i.zero, i.size, i.bytes)) = some (some (.agg #[(.string ⟨#[]⟩), (.int .i64 0), (.string ⟨#[]⟩)]), 3, 40) := by kernel_rfl
theorem info118 : (Tryz.prog.info? 118).map (fun i => (i.zero, i.size, i.bytes)) = some (some (.agg #[(.string ⟨#[]⟩), (.int .i64 0), (.string ⟨#[]⟩)]), 3, 40) := by kernel_rfl
structure S61 where
 f0 : ByteArray
 f1 : Int
 f2 : ByteArray
def z61 : S61 := ⟨(⟨#[]⟩ : ByteArray), (0 : Int), (⟨#[]⟩ : ByteArray)⟩
def k61 : Kd S61 := Kd.iso (Kd.pair Kd.string (Kd.pair (Kd.int .i64) Kd.string)) (fun x : S61 => (x.f0, x.f1, x.f2))
theorem k61_open {w : World} {x : S61} {cs : List Value} (h : k61.K w x cs) : cs = [.string x.f0, .int .i64 x.f1, .string x.f2] := by
 obtain ⟨_, _, rfl, rfl, ⟨_, _, rfl, rfl, rfl⟩⟩ := h
 exact rfl
def rd_T61 (xs : List S61) (i : Int) : S61 := xs.getD i.toNat z61
theorem at_T61 {w : World} {A : Option Addr} {n : Nat} {xs : List S61} (h : Kd.C k61 w A n xs) (i : Int) (h0 : 0 ≤ i) (h1 : i < n) : ∃ ad , A = some ad ∧ w.cell? (ad.add (i.toNat * 3)) = some (.string (rd_T61 xs i).f0) ∧ w.cell? ⟨(ad.add (i.toNat * 3)).block, (ad.add (i.toNat * 3)).off + 1, none⟩ = some (.int .i64 (rd_T61 xs i).f1) ∧ w.cell? ⟨(ad.add (i.toNat * 3)).block, (ad.add (i.toNat * 3)).off + 2, none⟩ = some (.string (rd_T61 xs i).f2) := by
 obtain ⟨ad, c, e, _, hK, hc0⟩ := Kd.C_get h z61 i h0 h1
 have hc : ∀ j u, c[j]? = some u → w.cell? (ad.add (i.toNat * 3 + j)) = some u := hc0
 obtain rfl := k61_open hK
 exact ⟨ad, e, hc 0 _ rfl, (by rw [← add_field _ _ 1 (by omega)]; exact hc 1 _ rfl), (by rw [← add_field _ _ 2 (by omega)]; exact hc 2 _ rfl)⟩
structure S65 where
 f0 : ByteArray
 f1 : Int
 f2 : ByteArray
def z65 : S65 := ⟨(⟨#[]⟩ : ByteArray), (0 : Int), (⟨#[]⟩ : ByteArray)⟩
def k65 : Kd S65 := Kd.iso (Kd.pair Kd.string (Kd.pair (Kd.int .i64) Kd.string)) (fun x : S65 => (x.f0, x.f1, x.f2))
theorem k65_open {w : World} {x : S65} {cs : List Value} (h : k65.K w x cs) : cs = [.string x.f0, .int .i64 x.f1, .string x.f2] := by
 obtain ⟨_, _, rfl, rfl, ⟨_, _, rfl, rfl, rfl⟩⟩ := h
 exact rfl
theorem k65_openM {w : World} {base : Nat} {ok : Nat → Prop} {x : S65} {cs : List Value} (h : k65.M w base ok x cs) : cs = [.string x.f0, .int .i64 x.f1, .string x.f2] := by
 obtain ⟨_, _, rfl, rfl, ⟨_, _, rfl, rfl, rfl⟩⟩ := h
 exact rfl
theorem k65_mk (w : World) (x : S65)  : k65.K w x [.string x.f0, .int .i64 x.f1, .string x.f2] := ⟨[.string x.f0], [.int .i64 x.f1, .string x.f2], rfl, rfl, ⟨[.int .i64 x.f1], [.string x.f2], rfl, rfl, rfl⟩⟩
theorem k65_mkM (w : World) (base : Nat) (ok : Nat → Prop) (x : S65)  : k65.M w base ok x [.string x.f0, .int .i64 x.f1, .string x.f2] := ⟨[.string x.f0], [.int .i64 x.f1, .string x.f2], rfl, rfl, ⟨[.int .i64 x.f1], [.string x.f2], rfl, rfl, rfl⟩⟩
def rd_T65 (xs : List S65) (i : Int) : S65 := xs.getD i.toNat z65
theorem at_T65 {w : World} {A : Option Addr} {n : Nat} {xs : List S65} (h : Kd.C k65 w A n xs) (i : Int) (h0 : 0 ≤ i) (h1 : i < n) : ∃ ad , A = some ad ∧ w.cell? (ad.add (i.toNat * 3)) = some (.string (rd_T65 xs i).f0) ∧ w.cell? ⟨(ad.add (i.toNat * 3)).block, (ad.add (i.toNat * 3)).off + 1, none⟩ = some (.int .i64 (rd_T65 xs i).f1) ∧ w.cell? ⟨(ad.add (i.toNat * 3)).block, (ad.add (i.toNat * 3)).off + 2, none⟩ = some (.string (rd_T65 xs i).f2) := by
 obtain ⟨ad, c, e, _, hK, hc0⟩ := Kd.C_get h z65 i h0 h1
 have hc : ∀ j u, c[j]? = some u → w.cell? (ad.add (i.toNat * 3 + j)) = some u := hc0
 obtain rfl := k65_open hK
 exact ⟨ad, e, hc 0 _ rfl, (by rw [← add_field _ _ 1 (by omega)]; exact hc 1 _ rfl), (by rw [← add_field _ _ 2 (by omega)]; exact hc 2 _ rfl)⟩
structure S118 where
 f0 : ByteArray
 f1 : Int
 f2 : ByteArray
def z118 : S118 := ⟨(⟨#[]⟩ : ByteArray), (0 : Int), (⟨#[]⟩ : ByteArray)⟩
def k118 : Kd S118 := Kd.iso (Kd.pair Kd.string (Kd.pair (Kd.int .i64) Kd.string)) (fun x : S118 => (x.f0, x.f1, x.f2))
theorem k118_open {w : World} {x : S118} {cs : List Value} (h : k118.K w x cs) : cs = [.string x.f0, .int .i64 x.f1, .string x.f2] := by
 obtain ⟨_, _, rfl, rfl, ⟨_, _, rfl, rfl, rfl⟩⟩ := h
 exact rfl
theorem k118_mkM (w : World) (base : Nat) (ok : Nat → Prop) (x : S118)  : k118.M w base ok x [.string x.f0, .int .i64 x.f1, .string x.f2] := ⟨[.string x.f0], [.int .i64 x.f1, .string x.f2], rfl, rfl, ⟨[.int .i64 x.f1], [.string x.f2], rfl, rfl, rfl⟩⟩
def rd_T118 (xs : List S118) (i : Int) : S118 := xs.getD i.toNat z118
theorem at_T118 {w : World} {A : Option Addr} {n : Nat} {xs : List S118} (h : Kd.C k118 w A n xs) (i : Int) (h0 : 0 ≤ i) (h1 : i < n) : ∃ ad , A = some ad ∧ w.cell? (ad.add (i.toNat * 3)) = some (.string (rd_T118 xs i).f0) ∧ w.cell? ⟨(ad.add (i.toNat * 3)).block, (ad.add (i.toNat * 3)).off + 1, none⟩ = some (.int .i64 (rd_T118 xs i).f1) ∧ w.cell? ⟨(ad.add (i.toNat * 3)).block, (ad.add (i.toNat * 3)).off + 2, none⟩ = some (.string (rd_T118 xs i).f2) := by
 obtain ⟨ad, c, e, _, hK, hc0⟩ := Kd.C_get h z118 i h0 h1
 have hc : ∀ j u, c[j]? = some u → w.cell? (ad.add (i.toNat * 3 + j)) = some u := hc0
 obtain rfl := k118_open hK
 exact ⟨ad, e, hc 0 _ rfl, (by rw [← add_field _ _ 1 (by omega)]; exact hc 1 _ rfl), (by rw [← add_field _ _ 2 (by omega)]; exact hc 2 _ rfl)⟩
structure S75 where
 f0 : ByteArray
 f1 : Int
 f2 : ByteArray
def z75 : S75 := ⟨(⟨#[]⟩ : ByteArray), (0 : Int), (⟨#[]⟩ : ByteArray)⟩
def k75 : Kd S75 := Kd.iso (Kd.pair Kd.string (Kd.pair (Kd.int .i64) Kd.string)) (fun x : S75 => (x.f0, x.f1, x.f2))
theorem k75_open {w : World} {x : S75} {cs : List Value} (h : k75.K w x cs) : cs = [.string x.f0, .int .i64 x.f1, .string x.f2] := by
 obtain ⟨_, _, rfl, rfl, ⟨_, _, rfl, rfl, rfl⟩⟩ := h
 exact rfl
theorem k75_openM {w : World} {base : Nat} {ok : Nat → Prop} {x : S75} {cs : List Value} (h : k75.M w base ok x cs) : cs = [.string x.f0, .int .i64 x.f1, .string x.f2] := by
 obtain ⟨_, _, rfl, rfl, ⟨_, _, rfl, rfl, rfl⟩⟩ := h
 exact rfl
theorem k75_mk (w : World) (x : S75)  : k75.K w x [.string x.f0, .int .i64 x.f1, .string x.f2] := ⟨[.string x.f0], [.int .i64 x.f1, .string x.f2], rfl, rfl, ⟨[.int .i64 x.f1], [.string x.f2], rfl, rfl, rfl⟩⟩
theorem k75_mkM (w : World) (base : Nat) (ok : Nat → Prop) (x : S75)  : k75.M w base ok x [.string x.f0, .int .i64 x.f1, .string x.f2] := ⟨[.string x.f0], [.int .i64 x.f1, .string x.f2], rfl, rfl, ⟨[.int .i64 x.f1], [.string x.f2], rfl, rfl, rfl⟩⟩
def rd_T75 (xs : List S75) (i : Int) : S75 := xs.getD i.toNat z75
theorem at_T75 {w : World} {A : Option Addr} {n : Nat} {xs : List S75} (h : Kd.C k75 w A n xs) (i : Int) (h0 : 0 ≤ i) (h1 : i < n) : ∃ ad , A = some ad ∧ w.cell? (ad.add (i.toNat * 3)) = some (.string (rd_T75 xs i).f0) ∧ w.cell? ⟨(ad.add (i.toNat * 3)).block, (ad.add (i.toNat * 3)).off + 1, none⟩ = some (.int .i64 (rd_T75 xs i).f1) ∧ w.cell? ⟨(ad.add (i.toNat * 3)).block, (ad.add (i.toNat * 3)).off + 2, none⟩ = some (.string (rd_T75 xs i).f2) := by
 obtain ⟨ad, c, e, _, hK, hc0⟩ := Kd.C_get h z75 i h0 h1
 have hc : ∀ j u, c[j]? = some u → w.cell? (ad.add (i.toNat * 3 + j)) = some u := hc0
 obtain rfl := k75_open hK
 exact ⟨ad, e, hc 0 _ rfl, (by rw [← add_field _ _ 1 (by omega)]; exact hc 1 _ rfl), (by rw [← add_field _ _ 2 (by omega)]; exact hc 2 _ rfl)⟩
structure S26 where
 f0 : Int
 f1 : (List S75)
structure S80 where
 f0 : ByteArray
 f1 : (List ByteArray)
 f2 : Int
 f3 : ByteArray
set_option linter.defProp false
def zS := @List.setIfInBounds_toArray
def zT := @List.set_cons_zero
def zU := @List.set_cons_succ
def zL := @World.block_lt_of_cell?
def zN := @pw_below_drewN
def zD := @below_drew1
def zA := @below_alloc
def zM := @blk_drewN
def zP := @blk_drew
def zQ := @blk_alloc
def zR := @Kd.R_alloc
def zV := @Kd.R_drewN
def zW := @Kd.R_drew
def zX := @of_decide_eq_true
def zK := @Aside0.mk
abbrev zF : Bool := false
abbrev zB : Bool := true
theorem zq0 {P : Prop} (h : P := by repeat (first | (with_reducible first | exact HB.out | apply zA | apply zN | apply zD) | exact HB.out)) : P := h
theorem zq1 {P : Prop} (h : P := by (try simp only [List.map_toArray, List.map_cons, List.map_nil]); first | done | rfl | (simp only [List.length_drop, List.length_take]; rfl)) : P := h
theorem zq2 {P : Prop} (h : P := by first | (with_reducible assumption) | assumption) : P := h
theorem zq3 {P : Prop} (h : P := by kernel_rfl) : P := h
theorem zq4 {P : Prop} (h : P := by first | rfl | (simp; done) | (simp [*]; done)) : P := h
theorem zq5 {P : Prop} (h : P := by first | rfl | (simp [errW_none, errW_some] <;> rfl) | (simp [*, errW_none, errW_some] <;> rfl)) : P := h
theorem zq6 {P : Prop} (h : P := by repeat (first | exact Drawn0.refl _ | apply Drawn0.step)) : P := h
theorem zq7 {P : Prop} (h : P := by omega) : P := h
theorem zq8 {P : Prop} (h : P := by with_reducible repeat (first | assumption | exact Below.refl _ _ | apply below_alloc | apply pw_below_drewN | apply below_drew1)) : P := h
theorem zq9 {P : Prop} (h : P := by assumption) : P := h
theorem zq10 {P : Prop} (h : P := by (with_reducible repeat (first | apply zR | apply zV | apply zW)); exact HO_4.out) : P := h
theorem zq13 {P : Prop} (h : P := by decide) : P := h
theorem zq11 {P : Prop} (h : P := by first | exact Kd.own_blk (Kd.R_ne HO_9.out BK164.out zq13) | (rw [add_block]; exact Kd.own_blk (Kd.R_ne HO_9.out BK164.out zq13)) | (show (Addr.add _ _).block ≠ _; rw [add_block]; exact Kd.own_blk (Kd.R_ne HO_9.out BK164.out zq13)) | (dsimp only; exact Kd.own_blk (Kd.R_ne HO_9.out BK164.out zq13))) : P := h
theorem zq12 {P : Prop} (h : P := by repeat (first | (with_reducible first | exact HK.out | apply Kept.alloc | apply Kept.drewN | apply Kept.drew) | exact HK.out)) : P := h
theorem zq14 {P : Prop} (h : P := by (with_reducible repeat (first | apply zR | apply zV | apply zW)); exact HO_10.out) : P := h
theorem zq15 {P : Prop} (h : P := by (with_reducible repeat (first | apply zR | apply zV | apply zW)); exact HO_0.out) : P := h
theorem zq16 {P : Prop} (h : P := by simp) : P := h
theorem zq17 {P : Prop} (h : P := by (with_reducible repeat (first | apply zR | apply zV | apply zW)); exact HO_5.out) : P := h
theorem zq18 {P : Prop} (h : P := by (with_reducible repeat (first | apply zR | apply zV | apply zW)); exact HO_3.out) : P := h
theorem zq19 {P : Prop} (h : P := by (with_reducible repeat (first | apply zR | apply zV | apply zW)); exact HO337.out) : P := h
theorem zq20 {P : Prop} (h : P := by first | exact Kd.R_nil _ _ _ _ _ | exact Kd.N_nil _ _ _ _ _ | exact Kd.V_nil _ _ _ _ _ | exact Kd.Q_nil _ _ _ _ _ | exact Kd.S_nil _ _ _ _ _) : P := h
theorem zq21 {P : Prop} (h : P := by (with_reducible repeat (first | apply zR | apply zV | apply zW)); exact HO341.out) : P := h
theorem zq22 {P : Prop} (h : P := by (with_reducible repeat (first | apply zR | apply zV | apply zW)); exact HO_351001.out) : P := h
theorem zq23 {P : Prop} (h : P := by (with_reducible repeat (first | apply zR | apply zV | apply zW)); exact HO_343001.out) : P := h
theorem zq24 {P : Prop} (h : P := by (with_reducible repeat (first | apply zR | apply zV | apply zW)); exact HO345.out) : P := h
theorem zq25 {P : Prop} (h : P := by (with_reducible repeat (first | apply zR | apply zV | apply zW)); exact HO_9.out) : P := h
theorem zq26 {P : Prop} (h : P := by (with_reducible repeat (first | apply zR | apply zV | apply zW)); exact HO349.out) : P := h
theorem zq27 {P : Prop} (h : P := by (with_reducible repeat (first | apply zR | apply zV | apply zW)); exact HO270.out) : P := h
theorem zq28 {P : Prop} (h : P := by rfl) : P := h
theorem zq29 {P : Prop} (h : P := by (try simp only [List.map_toArray, List.map_cons, List.map_nil]); first | done | (rw [show t360.length = t347.length from (Kd.R_reads' HO_351001.out).1.symm] <;> rfl) | rfl | (simp only [List.length_drop, List.length_take]; rfl)) : P := h
theorem zq30 {P : Prop} (h : P := by first | rfl | (simp [errW_none, errW_some] <;> rfl) | (simp only [← hji3]; first | rfl | (simp [errW_none, errW_some] <;> rfl)) | (simp [*, errW_none, errW_some] <;> rfl)) : P := h
theorem zq31 {P : Prop} (h : P := by simp only [ByteArray.size_append]; omega) : P := h
theorem zq32 {P : Prop} (h : P := by (with_reducible repeat (first | apply zR | apply zV | apply zW)); exact HO364.out) : P := h
def laws_szObject.f (a0_0 : ByteArray) (a0_1 : Int) (a0_2 : ByteArray) (a1 : Int) : Option (Int) := if (wrap64 (a1 - (a0_0.size : Int))) < 0 then (some (-1)) else (if (wrap64 ((wrap64 (a1 - (a0_0.size : Int))) - (a0_2.size : Int))) < 0 then (some (-1)) else (some (wrap64 ((wrap64 (a1 - (a0_0.size : Int))) - (a0_2.size : Int)))))
set_option maxHeartbeats 8000000 in
set_option maxRecDepth 100000 in
theorem laws_szObject.calls (a0_0 : ByteArray) (a0_1 : Int) (a0_2 : ByteArray) (a1 : Int) (r : Int) (w : World) (h : laws_szObject.f a0_0 a0_1 a0_2 a1 = some r) :
  Calls Tryz.prog 39 #[.agg #[.string a0_0, .int .i64 a0_1, .string a0_2], .int .i64 a1] w fun e w' => e = .returned (.int .i64 r) ∧ Below w.heap.size w w' := by
 have hu61 := Tryz.underlying61
 have HB := zK (Below.refl w.heap.size w)
 have H : (if (wrap64 (a1 - (a0_0.size : Int))) < 0 then (some (-1)) else (if (wrap64 ((wrap64 (a1 - (a0_0.size : Int))) - (a0_2.size : Int))) < 0 then (some (-1)) else (some (wrap64 ((wrap64 (a1 - (a0_0.size : Int))) - (a0_2.size : Int)))))) = some r := h
 clear h
 by_cases c3 : (wrap64 (a1 - (a0_0.size : Int))) < 0
 ·
  rw [if_pos c3] at H
  have c3b0 : decide ((wrap64 (a1 - (a0_0.size : Int))) < 0) = true := decide_eq_true c3
  clear c3
  obtain rfl := Option.some.inj H
  go_enter Tryz.func39, Tryz.ntmps39
  go_wp2_with (first | ((with_reducible refine gate_dst (N := 2) rfl ?_); refine box_event ?hg (N := 2) ?hd (cs := #[.string a0_0, .int .i64 a0_1, .string a0_2]) (t := 61) ?hr ?_; (case hd => rfl); (case hg => rfl); (case hr => first | (go_simp; done) | (go_simp; rfl)); intro gb101 hg w4 hbox hb; have n0_ := zK (below_step zq0 hb); have n1_ := zK (hbox); have n2_ := zK ((by rw [hg]; exact (below_size zq0) : w.heap.size ≤ gb101)); have n3_ := zK ((by rw [hg]; exact (below_size zq0) : w.heap.size ≤ gb101)); clear HB; have HB := n0_; have BK101 := n1_; have GW101 := n2_; have GE101 := n3_; clear n0_ n1_ n2_ n3_; clear hb hbox hg; have hcz5_0 : w4.cell? ⟨gb101, 0, none⟩ = some (.string a0_0) := (blk_cell BK101.out 0).trans rfl; have hcz5_1 : w4.cell? ⟨gb101, 1, none⟩ = some (.int .i64 a0_1) := (blk_cell BK101.out 1).trans rfl; have hcz5_2 : w4.cell? ⟨gb101, 2, none⟩ = some (.string a0_2) := (blk_cell BK101.out 2).trans rfl; have hfz5_0 := blk_frozen BK101.out 0; have hfz5_1 := blk_frozen BK101.out 1; have hfz5_2 := blk_frozen BK101.out 2))
  go_ret
  exact ⟨zq5, (by repeat (first | (with_reducible first | exact HB.out | apply zA | apply zN | apply zD | refine below_set ?_ GE101.out) | exact HB.out))⟩
 rw [if_neg c3] at H
 have c3b0 : decide ((wrap64 (a1 - (a0_0.size : Int))) < 0) = false := decide_eq_false c3
 clear c3
 by_cases c6 : (wrap64 ((wrap64 (a1 - (a0_0.size : Int))) - (a0_2.size : Int))) < 0
 ·
  rw [if_pos c6] at H
  have c6b0 : decide ((wrap64 ((wrap64 (a1 - (a0_0.size : Int))) - (a0_2.size : Int))) < 0) = true := decide_eq_true c6
  clear c6
  obtain rfl := Option.some.inj H
  go_enter Tryz.func39, Tryz.ntmps39
  go_wp2_with (first | ((with_reducible refine gate_dst (N := 2) rfl ?_); refine box_event ?hg (N := 2) ?hd (cs := #[.string a0_0, .int .i64 a0_1, .string a0_2]) (t := 61) ?hr ?_; (case hd => rfl); (case hg => rfl); (case hr => first | (go_simp; done) | (go_simp; rfl)); intro gb101 hg w7 hbox hb; have n0_ := zK (below_step zq0 hb); have n1_ := zK (hbox); have n2_ := zK ((by rw [hg]; exact (below_size zq0) : w.heap.size ≤ gb101)); have n3_ := zK ((by rw [hg]; exact (below_size zq0) : w.heap.size ≤ gb101)); clear HB; have HB := n0_; have BK101 := n1_; have GW101 := n2_; have GE101 := n3_; clear n0_ n1_ n2_ n3_; clear hb hbox hg; have hcz8_0 : w7.cell? ⟨gb101, 0, none⟩ = some (.string a0_0) := (blk_cell BK101.out 0).trans rfl; have hcz8_1 : w7.cell? ⟨gb101, 1, none⟩ = some (.int .i64 a0_1) := (blk_cell BK101.out 1).trans rfl; have hcz8_2 : w7.cell? ⟨gb101, 2, none⟩ = some (.string a0_2) := (blk_cell BK101.out 2).trans rfl; have hfz8_0 := blk_frozen BK101.out 0; have hfz8_1 := blk_frozen BK101.out 1; have hfz8_2 := blk_frozen BK101.out 2))
  go_ret
  exact ⟨zq5, (by repeat (first | (with_reducible first | exact HB.out | apply zA | apply zN | apply zD | refine below_set ?_ GE101.out) | exact HB.out))⟩
 rw [if_neg c6] at H
 have c6b0 : decide ((wrap64 ((wrap64 (a1 - (a0_0.size : Int))) - (a0_2.size : Int))) < 0) = false := decide_eq_false c6
 clear c6
 obtain rfl := Option.some.inj H
 go_enter Tryz.func39, Tryz.ntmps39
 go_wp2_with (first | ((with_reducible refine gate_dst (N := 2) rfl ?_); refine box_event ?hg (N := 2) ?hd (cs := #[.string a0_0, .int .i64 a0_1, .string a0_2]) (t := 61) ?hr ?_; (case hd => rfl); (case hg => rfl); (case hr => first | (go_simp; done) | (go_simp; rfl)); intro gb101 hg w9 hbox hb; have n0_ := zK (below_step zq0 hb); have n1_ := zK (hbox); have n2_ := zK ((by rw [hg]; exact (below_size zq0) : w.heap.size ≤ gb101)); have n3_ := zK ((by rw [hg]; exact (below_size zq0) : w.heap.size ≤ gb101)); clear HB; have HB := n0_; have BK101 := n1_; have GW101 := n2_; have GE101 := n3_; clear n0_ n1_ n2_ n3_; clear hb hbox hg; have hcz10_0 : w9.cell? ⟨gb101, 0, none⟩ = some (.string a0_0) := (blk_cell BK101.out 0).trans rfl; have hcz10_1 : w9.cell? ⟨gb101, 1, none⟩ = some (.int .i64 a0_1) := (blk_cell BK101.out 1).trans rfl; have hcz10_2 : w9.cell? ⟨gb101, 2, none⟩ = some (.string a0_2) := (blk_cell BK101.out 2).trans rfl; have hfz10_0 := blk_frozen BK101.out 0; have hfz10_1 := blk_frozen BK101.out 1; have hfz10_2 := blk_frozen BK101.out 2))
 go_ret
 exact ⟨zq5, (by repeat (first | (with_reducible first | exact HB.out | apply zA | apply zN | apply zD | refine below_set ?_ GE101.out) | exact HB.out))⟩
def laws_szObjectS.l0 : Nat → List (S61) → Int → Int → Option (Int)
 | 0, _, _, _ => none
 | k + 1, x0, x1, x5 => if x5 < (x0.length : Int) then (if 0 ≤ x5 then ((laws_szObject.f ((rd_T61 x0 x5).f0) ((rd_T61 x0 x5).f1) ((rd_T61 x0 x5).f2) x1).bind fun t103 => (if t103 < 0 then (some (-1)) else (laws_szObjectS.l0 k x0 t103 (wrap64 (x5 + 1))))) else (none)) else (some x1)
def laws_szObjectS.f (k : Nat) (l0 : List (S61)) (a1 : Int) : Option (Int) := if (wrap64 (a1 - (l0.length : Int))) < 0 then (some (-1)) else (laws_szObjectS.l0 k l0 (wrap64 (a1 - (l0.length : Int))) 0)
set_option maxHeartbeats 8000000 in
set_option maxRecDepth 100000 in
theorem laws_szObjectS.calls (k : Nat) (A0 : Option Addr) (c0 : Nat) (l0 : List (S61)) (a1 : Int) (r : Int) (w : World) (hr0 : Kd.C k61 w A0 l0.length l0) (hc0 : l0.length ≤ c0) (h : laws_szObjectS.f k l0 a1 = some r) :
  Calls Tryz.prog 8 #[.slice A0 l0.length c0, .int .i64 a1] w fun e w' => e = .returned (.int .i64 r) ∧ Below w.heap.size w w' := by
 have hu61 := Tryz.underlying61
 have HR0 := zK hr0
 have HC0 := zK hc0
 clear hr0 hc0
 have HB := zK (Below.refl w.heap.size w)
 have H : (if (wrap64 (a1 - (l0.length : Int))) < 0 then (some (-1)) else (laws_szObjectS.l0 k l0 (wrap64 (a1 - (l0.length : Int))) 0)) = some r := h
 clear h
 by_cases c3 : (wrap64 (a1 - (l0.length : Int))) < 0
 ·
  rw [if_pos c3] at H
  have c3b0 : decide ((wrap64 (a1 - (l0.length : Int))) < 0) = true := decide_eq_true c3
  clear c3
  obtain rfl := Option.some.inj H
  go_enter Tryz.func8, Tryz.ntmps8
  go_wp2
  go_ret
  exact ⟨zq5, zq0⟩
 rw [if_neg c3] at H
 have c3b0 : decide ((wrap64 (a1 - (l0.length : Int))) < 0) = false := decide_eq_false c3
 clear c3
 have H' := zK H
 clear H
 go_enter Tryz.func8, Tryz.ntmps8
 go_wp2
 go_loopg [1, 5] k (fun kq v1 v5 w' => ∃ (x1_1 : Int) (x5_1 : Int), v1 = .int .i64 x1_1 ∧ v5 = .int .i64 x5_1 ∧ Aside0 (laws_szObjectS.l0 kq l0 x1_1 x5_1 = some r) ∧ Aside0 (kq ≤ k) ∧ Aside0 (Below w.heap.size w w'))
 case atStart => exact ⟨(wrap64 (a1 - (l0.length : Int))), (0), zq4, zq4, H', ⟨Nat.le_refl _⟩, ⟨by repeat (first | (with_reducible first | exact HB.out | apply zA | apply zN | apply zD) | exact HB.out)⟩⟩
 case round =>
  clear H'
  try clear p2
  try clear c3
  try clear c3b0
  obtain ⟨x1_1, x5_1, rfl, rfl, HA, HK1, HB⟩ := hrel
  cases gk with
  | zero => exact absurd HA.out (by simp [laws_szObjectS.l0])
  | succ k1 =>
   have H := HA.out
   clear HA
   simp only [laws_szObjectS.l0] at H
   by_cases c4 : x5_1 < (l0.length : Int)
   ·
    rw [if_pos c4] at H
    have c4b0 : decide (x5_1 < (l0.length : Int)) = true := decide_eq_true c4
    clear c4
    by_cases c5 : 0 ≤ x5_1
    ·
     rw [if_pos c5] at H
     have c5b0 : decide (0 ≤ x5_1) = true := decide_eq_true c5
     clear c5
     replace H := Option.bind_eq_some_iff.mp H
     obtain ⟨t103, A60, H⟩ := H
     replace H : (if t103 < 0 then (some (-1)) else (laws_szObjectS.l0 k1 l0 t103 (wrap64 (x5_1 + 1)))) = some r := H
     have A6 := zK A60
     clear A60
     by_cases c7 : t103 < 0
     ·
      rw [if_pos c7] at H
      have c7b0 : decide (t103 < 0) = true := decide_eq_true c7
      clear c7
      obtain rfl := Option.some.inj H
      have p102 : 0 ≤ (x5_1 : Int) := zX zq2
      have q102 : x5_1 < (l0.length : Int) := zX zq2
      obtain ⟨ad102, e102, hx102_0, hx102_1, hx102_2⟩ := at_T61 HR0.out x5_1 p102 q102
      cases e102
      replace hx102_0 := (HB.out.cell (zL w _ hx102_0)).trans hx102_0
      replace hx102_1 := (HB.out.cell (zL w _ hx102_1)).trans hx102_1
      replace hx102_2 := (HB.out.cell (zL w _ hx102_2)).trans hx102_2
      replace p102 := eq_true p102
      replace q102 := eq_true q102
      go_wp2_with (first | ((with_reducible refine gate_callee (f := 39) rfl ?_); refine goesL_ (some 23) rfl rfl Tryz.func39 zq3 rfl #[.agg #[.string ((rd_T61 l0 x5_1).f0), .int .i64 ((rd_T61 l0 x5_1).f1), .string ((rd_T61 l0 x5_1).f2)], .int .i64 x1_1] rfl zq1 ?_; (with_reducible refine (laws_szObject.calls ((rd_T61 l0 x5_1).f0) ((rd_T61 l0 x5_1).f1) ((rd_T61 l0 x5_1).f2) x1_1 t103 _ A6.out).mono ?_); rintro e w8 ⟨rfl, hb⟩; refine ⟨_, rfl, ?_⟩; have n0_ := zK (below_step zq0 hb); clear HB; have HB := n0_; clear n0_; (try clear hb); (try clear hb2); (try clear hk); (try clear hi)))
      go_ret
      exact ⟨zq5, zq0⟩
     rw [if_neg c7] at H
     have c7b0 : decide (t103 < 0) = false := decide_eq_false c7
     clear c7
     have H' := zK H
     clear H
     have p102 : 0 ≤ (x5_1 : Int) := zX zq2
     have q102 : x5_1 < (l0.length : Int) := zX zq2
     obtain ⟨ad102, e102, hx102_0, hx102_1, hx102_2⟩ := at_T61 HR0.out x5_1 p102 q102
     cases e102
     replace hx102_0 := (HB.out.cell (zL w _ hx102_0)).trans hx102_0
     replace hx102_1 := (HB.out.cell (zL w _ hx102_1)).trans hx102_1
     replace hx102_2 := (HB.out.cell (zL w _ hx102_2)).trans hx102_2
     replace p102 := eq_true p102
     replace q102 := eq_true q102
     go_wp2_with (first | ((with_reducible refine gate_callee (f := 39) rfl ?_); refine goesL_ (some 23) rfl rfl Tryz.func39 zq3 rfl #[.agg #[.string ((rd_T61 l0 x5_1).f0), .int .i64 ((rd_T61 l0 x5_1).f1), .string ((rd_T61 l0 x5_1).f2)], .int .i64 x1_1] rfl zq1 ?_; (with_reducible refine (laws_szObject.calls ((rd_T61 l0 x5_1).f0) ((rd_T61 l0 x5_1).f1) ((rd_T61 l0 x5_1).f2) x1_1 t103 _ A6.out).mono ?_); rintro e w9 ⟨rfl, hb⟩; refine ⟨_, rfl, ?_⟩; have n0_ := zK (below_step zq0 hb); clear HB; have HB := n0_; clear n0_; (try clear hb); (try clear hb2); (try clear hk); (try clear hi)))
     go_roundg k1
     case measure => have := HK1.out; omega
     case rel => exact ⟨(t103), (wrap64 (x5_1 + 1)), zq4, zq4, H', ⟨by have := HK1.out; omega⟩, ⟨by repeat (first | (with_reducible first | exact HB.out | apply zA | apply zN | apply zD) | exact HB.out)⟩⟩
    rw [if_neg c5] at H
    exact absurd H zq16
   rw [if_neg c4] at H
   have c4b0 : decide (x5_1 < (l0.length : Int)) = false := decide_eq_false c4
   clear c4
   obtain rfl := Option.some.inj H
   go_wp2
   go_ret
   exact ⟨zq5, zq0⟩
def spec_l1In.f (a0 : Int) (a1 : Int) (a2 : Int) : Option (Bool) := if a0 ≥ a1 then (some (decide (a0 ≤ a2))) else (some false)
set_option maxHeartbeats 8000000 in
set_option maxRecDepth 100000 in
theorem spec_l1In.calls (a0 : Int) (a1 : Int) (a2 : Int) (r : Bool) (w : World) (h : spec_l1In.f a0 a1 a2 = some r) :
  Calls Tryz.prog 63 #[.int .i64 a0, .int .i64 a1, .int .i64 a2] w fun e w' => e = .returned (.bool r) ∧ Drawn0 w w' := by
 have H : (if a0 ≥ a1 then (some (decide (a0 ≤ a2))) else (some false)) = some r := h
 clear h
 by_cases c4 : a0 ≥ a1
 ·
  rw [if_pos c4] at H
  have c4b0 : decide (a1 ≤ a0) = true := decide_eq_true c4
  clear c4
  obtain rfl := Option.some.inj H
  go_enter Tryz.func63, Tryz.ntmps63
  go_wp2
  go_ret
  exact ⟨zq4, zq6⟩
 rw [if_neg c4] at H
 have c4b0 : decide (a1 ≤ a0) = false := decide_eq_false c4
 clear c4
 obtain rfl := Option.some.inj H
 go_enter Tryz.func63, Tryz.ntmps63
 go_wp2
 go_ret
 exact ⟨zq4, zq6⟩
def spec_l5Kind.f (a0 : Int) : Option (Bool) := (spec_l1In.f a0 1 3).bind fun t104 => (some t104)
set_option maxHeartbeats 8000000 in
set_option maxRecDepth 100000 in
theorem spec_l5Kind.calls (a0 : Int) (r : Bool) (w : World) (h : spec_l5Kind.f a0 = some r) :
  Calls Tryz.prog 117 #[.int .i64 a0] w fun e w' => e = .returned (.bool r) ∧ Drawn0 w w' := by
 have H : ((spec_l1In.f a0 1 3).bind fun t104 => (some t104)) = some r := h
 clear h
 replace H := Option.bind_eq_some_iff.mp H
 obtain ⟨t104, A20, H⟩ := H
 replace H : (some t104) = some r := H
 have A2 := zK A20
 clear A20
 obtain rfl := Option.some.inj H
 go_enter Tryz.func117, Tryz.ntmps117
 go_wp2_with (first | ((with_reducible refine gate_callee (f := 63) rfl ?_); refine goesL_ (some 4) rfl rfl Tryz.func63 zq3 rfl #[.int .i64 a0, .int .i64 1, .int .i64 3] rfl zq1 ?_; (with_reducible refine (spec_l1In.calls a0 1 3 t104 _ A2.out).mono ?_); rintro e w' ⟨rfl, ⟨nd, rfl⟩⟩; refine ⟨_, rfl, ?_⟩))
 go_ret
 exact ⟨zq4, zq6⟩
def spec_l1Split.l0 : Nat → ByteArray → List ByteArray → Int → Int → Option (List ByteArray)
 | 0, _, _, _, _ => none
 | k + 1, x0, x3, x4, x5 => if x5 < (x0.size : Int) then (if 0 ≤ x5 then (if (bt x0 x5) = 10 then (if 0 ≤ x4 then (if x4 ≤ (wrap64 (x5 + 1)) then (if (wrap64 (x5 + 1)) ≤ (x0.size : Int) then (if x3.length < 8796093022208 then (spec_l1Split.l0 k x0 (x3 ++ [x0.extract (x4 : Int).toNat ((wrap64 (x5 + 1)) : Int).toNat]) (wrap64 (x5 + 1)) (wrap64 (x5 + 1))) else (none)) else (none)) else (none)) else (none)) else (spec_l1Split.l0 k x0 x3 x4 (wrap64 (x5 + 1)))) else (none)) else (if x4 < (x0.size : Int) then (if 0 ≤ x4 then (if x4 ≤ (x0.size : Int) then (if x3.length < 8796093022208 then (some (x3 ++ [x0.extract (x4 : Int).toNat x0.size])) else (none)) else (none)) else (none)) else (some x3))
def spec_l1Split.f (k : Nat) (a0 : ByteArray) : Option (List ByteArray) := spec_l1Split.l0 k a0 (([] : List ByteArray)) 0 0
set_option maxHeartbeats 8000000 in
set_option maxRecDepth 100000 in
theorem spec_l1Split.calls (k : Nat) (a0 : ByteArray) (r : List ByteArray) (w : World) (h : spec_l1Split.f k a0 = some r) :
  Calls Tryz.prog 159 #[.string a0] w fun e w' => ∃ v0_ : Value, e = .returned (v0_) ∧ Kd.R Kd.string 9 w' w.heap.size (fun _ => True) v0_ r ∧ Below w.heap.size w w' := by
 have HB := zK (Below.refl w.heap.size w)
 have H : (spec_l1Split.l0 k a0 (([] : List ByteArray)) 0 0) = some r := h
 clear h
 obtain ⟨y105, hy105⟩ : ∃ y_ : List ByteArray, y_ = (([] : List ByteArray)) := ⟨_, rfl⟩
 replace H : (spec_l1Split.l0 k a0 y105 0 0) = some r := by first | (rw [hy105]; with_reducible exact H) | (have H2_ := (Option.bind_some _ _).symm.trans H; rw [hy105]; with_reducible exact H2_) | (have H2_ := (Option.bind_some _ _).symm.trans H; with_reducible exact H2_) | with_reducible exact H | (rw [hy105]; exact H) | exact H
 have Ny105 := zK hy105
 clear hy105
 have H' := zK H
 clear H
 go_enter Tryz.func159, Tryz.ntmps159
 go_wp2_with (first | ((with_reducible refine gate_dst (N := 6) rfl ?_); refine Kd.R_lit Kd.string _ 9 ?hg (N := 6) ?hd (xs := ([] : List ByteArray)) (inner := []) (ok := fun _ => True) (okp := fun _ => True) ?hr ?hp (fun _ hk => hk) trivial (Below.refl _ _) (Nat.le_refl _) zq16 ?_; (case hd => rfl); (case hg => rfl); (case hr => first | (go_simp; done) | (go_simp; rfl)); (case hp => exact (Reps.none _ _)); intro v106 w2 ho3 hb hg_ hnew_; clear hg_ hnew_; (first | rw [← Ny105.out] at ho3 | (simp only [Int.reduceToNat] at ho3; rw [← Ny105.out] at ho3)); have n0_ := zK (Kd.R_lower ho3 (below_size zq0)); have n1_ := zK (below_step zq0 hb); clear HB; have HO107 := n0_; have HB := n1_; clear n0_ n1_; clear hb ho3))
 go_loopg [3, 4, 5] k (fun kq v3 v4 v5 w' => ∃ (x3_1 : List ByteArray) (x4_1 : Int) (x5_1 : Int), v4 = .int .i64 x4_1 ∧ v5 = .int .i64 x5_1 ∧ Aside0 (spec_l1Split.l0 kq a0 x3_1 x4_1 x5_1 = some r) ∧ Aside0 (kq ≤ k) ∧ Aside0 (Kd.R Kd.string 9 w' w.heap.size (fun _ => True) v3 x3_1) ∧ Aside0 (Below w.heap.size w w'))
 case atStart => exact ⟨(y105), (0), (0), zq4, zq4, H', ⟨Nat.le_refl _⟩, ⟨by (with_reducible repeat (first | apply zR | apply zV | apply zW)); exact HO107.out⟩, ⟨by repeat (first | (with_reducible first | exact HB.out | apply zA | apply zN | apply zD) | exact HB.out)⟩⟩
 case round =>
  clear H'
  try clear c1
  try clear p2
  obtain ⟨x3_1, x4_1, x5_1, rfl, rfl, HA, HK1, HO_3, HB⟩ := hrel
  cases gk with
  | zero => exact absurd HA.out (by simp [spec_l1Split.l0])
  | succ k1 =>
   have H := HA.out
   clear HA
   simp only [spec_l1Split.l0] at H
   by_cases c4 : x5_1 < (a0.size : Int)
   ·
    rw [if_pos c4] at H
    have c4b0 : decide (x5_1 < (a0.size : Int)) = true := decide_eq_true c4
    clear c4
    by_cases c5 : 0 ≤ x5_1
    ·
     rw [if_pos c5] at H
     have c5b0 : decide (0 ≤ x5_1) = true := decide_eq_true c5
     clear c5
     by_cases c7 : (bt a0 x5_1) = 10
     ·
      rw [if_pos c7] at H
      have c7b0 : ((bt a0 x5_1) == 10) = true := beq_iff_eq.mpr c7
      have c7b1 : ((bt a0 x5_1) != 10) = false := bne_eq_false_iff_eq.mpr c7
      clear c7
      by_cases c8 : 0 ≤ x4_1
      ·
       rw [if_pos c8] at H
       have c8b0 := eq_true c8
       have c8b1 : decide (0 ≤ x4_1) = true := decide_eq_true c8
       clear c8
       by_cases c9 : x4_1 ≤ (wrap64 (x5_1 + 1))
       ·
        rw [if_pos c9] at H
        have c9b0 := eq_true c9
        have c9b1 : decide (x4_1 ≤ (wrap64 (x5_1 + 1))) = true := decide_eq_true c9
        by_cases c10 : (wrap64 (x5_1 + 1)) ≤ (a0.size : Int)
        ·
         rw [if_pos c10] at H
         have c10b0 := eq_true c10
         have c10b1 : decide ((wrap64 (x5_1 + 1)) ≤ (a0.size : Int)) = true := decide_eq_true c10
         by_cases c11 : x3_1.length < 8796093022208
         ·
          rw [if_pos c11] at H
          have LMc11 := zK c11
          clear c11
          obtain ⟨y108, hy108⟩ : ∃ y_ : List ByteArray, y_ = (x3_1 ++ [a0.extract (x4_1 : Int).toNat ((wrap64 (x5_1 + 1)) : Int).toNat]) := ⟨_, rfl⟩
          replace H : (spec_l1Split.l0 k1 a0 y108 (wrap64 (x5_1 + 1)) (wrap64 (x5_1 + 1))) = some r := by first | (rw [hy108]; with_reducible exact H) | (have H2_ := (Option.bind_some _ _).symm.trans H; rw [hy108]; with_reducible exact H2_) | (have H2_ := (Option.bind_some _ _).symm.trans H; with_reducible exact H2_) | with_reducible exact H | (rw [hy108]; exact H) | exact H
          have Ny108 := zK hy108
          clear hy108
          have H' := zK H
          clear H
          have p6 : 0 ≤ (x5_1 : Int) := zX zq2
          have q6 : x5_1 < (a0.size : Int) := zX zq2
          have hx6 := bt_at a0 x5_1
          replace p6 := eq_true p6
          replace q6 := eq_true q6
          go_wp2_with (first | ((with_reducible refine gate_builtin (b := .append) (xs := #[.tmp 17, .tmp 23]) rfl ?_); at_builtin; refine Kd.R_append Kd.string (w0 := w) w.heap.size rfl (.tmp 17) (.tmp 23) 46 9 (.string ⟨#[]⟩) 16 rfl Tryz.underlying46 info9 rfl zq13 zq7 u3 x3_1 (a0.extract (x4_1 : Int).toNat ((wrap64 (x5_1 + 1)) : Int).toNat) [.string (a0.extract (x4_1 : Int).toNat ((wrap64 (x5_1 + 1)) : Int).toNat)] (fun _ => True) (fun _ => False) rfl rfl ?aP (fun _ hk => hk.elim) ?aF ?aO ?aB ?aS ?aL ?_; (case aP => exact rfl); (case aB => exact zq0); (case aF => exact (fun _ _ => trivial)); (case aO => exact zq18); (case aS => exact (below_size zq0)); (case aL => have := LMc11.out; omega); intro v109 w12 ho hb hg hat; rw [← Ny108.out] at ho; have n0_ := zK (hb); have n1_ := zK (ho); clear HB; clear HO_3; have HB := n0_; have HO110 := n1_; clear n0_ n1_; clear ho hb hg hat))
          go_roundg k1
          case measure => have := HK1.out; omega
          case rel => exact ⟨(y108), (wrap64 (x5_1 + 1)), (wrap64 (x5_1 + 1)), zq4, zq4, H', ⟨by have := HK1.out; omega⟩, ⟨by (with_reducible repeat (first | apply zR | apply zV | apply zW)); exact HO110.out⟩, ⟨by repeat (first | (with_reducible first | exact HB.out | apply zA | apply zN | apply zD) | exact HB.out)⟩⟩
         rw [if_neg c11] at H
         exact absurd H zq16
        rw [if_neg c10] at H
        exact absurd H zq16
       rw [if_neg c9] at H
       exact absurd H zq16
      rw [if_neg c8] at H
      exact absurd H zq16
     rw [if_neg c7] at H
     have c7b0 : ((bt a0 x5_1) == 10) = false := beq_eq_false_iff_ne.mpr c7
     have c7b1 : ((bt a0 x5_1) != 10) = true := bne_iff_ne.mpr c7
     have H' := zK H
     clear H
     have p6 : 0 ≤ (x5_1 : Int) := zX zq2
     have q6 : x5_1 < (a0.size : Int) := zX zq2
     have hx6 := bt_at a0 x5_1
     replace p6 := eq_true p6
     replace q6 := eq_true q6
     go_wp2
     go_roundg k1
     case measure => have := HK1.out; omega
     case rel => exact ⟨(x3_1), (x4_1), (wrap64 (x5_1 + 1)), zq4, zq4, H', ⟨by have := HK1.out; omega⟩, ⟨by (with_reducible repeat (first | apply zR | apply zV | apply zW)); exact HO_3.out⟩, ⟨by repeat (first | (with_reducible first | exact HB.out | apply zA | apply zN | apply zD) | exact HB.out)⟩⟩
    rw [if_neg c5] at H
    exact absurd H zq16
   rw [if_neg c4] at H
   have c4b0 : decide (x5_1 < (a0.size : Int)) = false := decide_eq_false c4
   clear c4
   by_cases c13 : x4_1 < (a0.size : Int)
   ·
    rw [if_pos c13] at H
    have c13b0 : decide (x4_1 < (a0.size : Int)) = true := decide_eq_true c13
    clear c13
    by_cases c14 : 0 ≤ x4_1
    ·
     rw [if_pos c14] at H
     have c14b0 := eq_true c14
     have c14b1 : decide (0 ≤ x4_1) = true := decide_eq_true c14
     clear c14
     by_cases c15 : x4_1 ≤ (a0.size : Int)
     ·
      rw [if_pos c15] at H
      have c15b0 := eq_true c15
      have c15b1 : decide (x4_1 ≤ (a0.size : Int)) = true := decide_eq_true c15
      clear c15
      by_cases c16 : x3_1.length < 8796093022208
      ·
       rw [if_pos c16] at H
       have LMc16 := zK c16
       clear c16
       obtain ⟨y111, hy111⟩ : ∃ y_ : List ByteArray, y_ = (x3_1 ++ [a0.extract (x4_1 : Int).toNat a0.size]) := ⟨_, rfl⟩
       replace H : (some y111) = some r := by first | (rw [hy111]; with_reducible exact H) | (have H2_ := (Option.bind_some _ _).symm.trans H; rw [hy111]; with_reducible exact H2_) | (have H2_ := (Option.bind_some _ _).symm.trans H; with_reducible exact H2_) | with_reducible exact H | (rw [hy111]; exact H) | exact H
       have Ny111 := zK hy111
       clear hy111
       obtain rfl := Option.some.inj H
       go_wp2_with (first | ((with_reducible refine gate_builtin (b := .append) (xs := #[.tmp 31, .tmp 35]) rfl ?_); at_builtin; refine Kd.R_append Kd.string (w0 := w) w.heap.size rfl (.tmp 31) (.tmp 35) 46 9 (.string ⟨#[]⟩) 16 rfl Tryz.underlying46 info9 rfl zq13 zq7 u3 x3_1 (a0.extract (x4_1 : Int).toNat a0.size) [.string (a0.extract (x4_1 : Int).toNat a0.size)] (fun _ => True) (fun _ => False) rfl rfl ?aP (fun _ hk => hk.elim) ?aF ?aO ?aB ?aS ?aL ?_; (case aP => exact rfl); (case aB => exact zq0); (case aF => exact (fun _ _ => trivial)); (case aO => exact zq18); (case aS => exact (below_size zq0)); (case aL => have := LMc16.out; omega); intro v112 w17 ho hb hg hat; rw [← Ny111.out] at ho; have n0_ := zK (hb); have n1_ := zK (ho); clear HB; clear HO_3; have HB := n0_; have HO113 := n1_; clear n0_ n1_; clear ho hb hg hat))
       go_ret
       exact ⟨_, zq5, (by (with_reducible repeat (first | apply zR | apply zV | apply zW)); exact HO113.out), zq0⟩
      rw [if_neg c16] at H
      exact absurd H zq16
     rw [if_neg c15] at H
     exact absurd H zq16
    rw [if_neg c14] at H
    exact absurd H zq16
   rw [if_neg c13] at H
   have c13b0 : decide (x4_1 < (a0.size : Int)) = false := decide_eq_false c13
   clear c13
   obtain rfl := Option.some.inj H
   go_wp2
   go_ret
   exact ⟨_, zq5, zq18, zq0⟩
def spec_TextFault.f (k : Nat) (a0 : ByteArray) : Option (Int) := if (a0.size : Int) > 2000 then (some 2) else ((spec_l1Split.f k a0).bind fun t114 => (if (t114.length : Int) > 100 then (some 2) else (some 0)))
set_option maxHeartbeats 8000000 in
set_option maxRecDepth 100000 in
theorem spec_TextFault.calls (k : Nat) (a0 : ByteArray) (r : Int) (w : World) (h : spec_TextFault.f k a0 = some r) :
  Calls Tryz.prog 118 #[.string a0] w fun e w' => e = .returned (.int .i64 r) ∧ Below w.heap.size w w' := by
 have HB := zK (Below.refl w.heap.size w)
 have H : (if (a0.size : Int) > 2000 then (some 2) else ((spec_l1Split.f k a0).bind fun t114 => (if (t114.length : Int) > 100 then (some 2) else (some 0)))) = some r := h
 clear h
 by_cases c2 : (a0.size : Int) > 2000
 ·
  rw [if_pos c2] at H
  have c2b0 : decide (2000 < (a0.size : Int)) = true := decide_eq_true c2
  have c2b1 : decide (2000 < a0.size) = true := decide_eq_true zq7
  clear c2
  obtain rfl := Option.some.inj H
  go_enter Tryz.func118, Tryz.ntmps118
  go_wp2
  go_ret
  exact ⟨zq5, zq0⟩
 rw [if_neg c2] at H
 have c2b0 : decide (2000 < (a0.size : Int)) = false := decide_eq_false c2
 have c2b1 : decide (2000 < a0.size) = false := decide_eq_false zq7
 clear c2
 replace H := Option.bind_eq_some_iff.mp H
 obtain ⟨t114, A30, H⟩ := H
 replace H : (if (t114.length : Int) > 100 then (some 2) else (some 0)) = some r := H
 have A3 := zK A30
 clear A30
 by_cases c4 : (t114.length : Int) > 100
 ·
  rw [if_pos c4] at H
  have c4b0 : decide (100 < (t114.length : Int)) = true := decide_eq_true c4
  have c4b1 : decide (100 < t114.length) = true := decide_eq_true zq7
  clear c4
  obtain rfl := Option.some.inj H
  go_enter Tryz.func118, Tryz.ntmps118
  go_wp2_with (first | (go_at_call 159; (with_reducible refine (spec_l1Split.calls k a0 t114 _ A3.out).mono ?_); rintro e w5 ⟨v115, rfl, ho0, hb⟩; have n0_ := zK (Kd.R_lower ho0 (below_size zq0)); have n1_ := zK (below_step zq0 hb); clear HB; have HO116 := n0_; have HB := n1_; clear n0_ n1_; (try clear hb); (try clear hb2); (try clear hk); (try clear hi); (try clear ho0); obtain ⟨Ao6, co6, eo6⟩ := Kd.R_slice HO116.out; subst eo6))
  go_ret
  exact ⟨zq5, zq0⟩
 rw [if_neg c4] at H
 have c4b0 : decide (100 < (t114.length : Int)) = false := decide_eq_false c4
 have c4b1 : decide (100 < t114.length) = false := decide_eq_false zq7
 clear c4
 obtain rfl := Option.some.inj H
 go_enter Tryz.func118, Tryz.ntmps118
 go_wp2_with (first | (go_at_call 159; (with_reducible refine (spec_l1Split.calls k a0 t114 _ A3.out).mono ?_); rintro e w7 ⟨v115, rfl, ho0, hb⟩; have n0_ := zK (Kd.R_lower ho0 (below_size zq0)); have n1_ := zK (below_step zq0 hb); clear HB; have HO116 := n0_; have HB := n1_; clear n0_ n1_; (try clear hb); (try clear hb2); (try clear hk); (try clear hi); (try clear ho0); obtain ⟨Ao8, co8, eo8⟩ := Kd.R_slice HO116.out; subst eo8))
 go_ret
 exact ⟨zq5, zq0⟩
def spec_l5Letter.f (a0 : Int) : Option (ByteArray) := if 0 ≤ a0 then (if a0 ≤ (wrap64 (a0 + 1)) then (if (wrap64 (a0 + 1)) ≤ 4 then (some ((⟨#[63, 98, 116, 99]⟩ : ByteArray).extract (a0 : Int).toNat ((wrap64 (a0 + 1)) : Int).toNat)) else (none)) else (none)) else (none)
set_option maxHeartbeats 8000000 in
set_option maxRecDepth 100000 in
theorem spec_l5Letter.calls (a0 : Int) (r : ByteArray) (w : World) (h : spec_l5Letter.f a0 = some r) :
  Calls Tryz.prog 133 #[.int .i64 a0] w fun e w' => e = .returned (.string r) ∧ Drawn0 w w' := by
 have H : (if 0 ≤ a0 then (if a0 ≤ (wrap64 (a0 + 1)) then (if (wrap64 (a0 + 1)) ≤ 4 then (some ((⟨#[63, 98, 116, 99]⟩ : ByteArray).extract (a0 : Int).toNat ((wrap64 (a0 + 1)) : Int).toNat)) else (none)) else (none)) else (none)) = some r := h
 clear h
 by_cases c2 : 0 ≤ a0
 ·
  rw [if_pos c2] at H
  have c2b0 := eq_true c2
  have c2b1 : decide (0 ≤ a0) = true := decide_eq_true c2
  clear c2
  by_cases c3 : a0 ≤ (wrap64 (a0 + 1))
  ·
   rw [if_pos c3] at H
   have c3b0 := eq_true c3
   have c3b1 : decide (a0 ≤ (wrap64 (a0 + 1))) = true := decide_eq_true c3
   by_cases c4 : (wrap64 (a0 + 1)) ≤ 4
   ·
    rw [if_pos c4] at H
    have c4b0 := eq_true c4
    have c4b1 : decide ((wrap64 (a0 + 1)) ≤ 4) = true := decide_eq_true c4
    obtain rfl := Option.some.inj H
    go_enter Tryz.func133, Tryz.ntmps133
    go_wp2
    go_ret
    exact ⟨zq4, zq6⟩
   rw [if_neg c4] at H
   exact absurd H zq16
  rw [if_neg c3] at H
  exact absurd H zq16
 rw [if_neg c2] at H
 exact absurd H zq16
def spec_DigestOf.l0 : Nat → ByteArray → Int → Int → Option (Int)
 | 0, _, _, _ => none
 | k + 1, x0, x3, x4 => if x4 < (x0.size : Int) then (if 0 ≤ x4 then (spec_DigestOf.l0 k x0 (Int.tmod (wrap64 ((wrap64 (x3 * 131)) + (wrap64 (bt x0 x4)))) 65521) (wrap64 (x4 + 1))) else (none)) else (some x3)
def spec_DigestOf.f (k : Nat) (a0 : ByteArray) : Option (Int) := spec_DigestOf.l0 k a0 7 0
set_option maxHeartbeats 8000000 in
set_option maxRecDepth 100000 in
theorem spec_DigestOf.calls (k : Nat) (a0 : ByteArray) (r : Int) (w : World) (h : spec_DigestOf.f k a0 = some r) :
  Calls Tryz.prog 168 #[.string a0] w fun e w' => e = .returned (.int .i64 r) ∧ Drawn0 w w' := by
 have H : (spec_DigestOf.l0 k a0 7 0) = some r := h
 clear h
 have H' := zK H
 clear H
 go_enter Tryz.func168, Tryz.ntmps168
 go_wp2
 go_loopg [3, 4] k (fun kq v3 v4 w' => ∃ (x3_1 : Int) (x4_1 : Int), v3 = .int .i64 x3_1 ∧ v4 = .int .i64 x4_1 ∧ Aside0 (spec_DigestOf.l0 kq a0 x3_1 x4_1 = some r) ∧ Aside0 (kq ≤ k) ∧ Drawn0 w w')
 case atStart => exact ⟨(7), (0), zq4, zq4, H', ⟨Nat.le_refl _⟩, by repeat (first | exact Drawn0.refl _ | apply Drawn0.step)⟩
 case round =>
  clear H'
  try clear c1
  obtain ⟨x3_1, x4_1, rfl, rfl, HA, HK1, ⟨m1, rfl⟩⟩ := hrel
  cases gk with
  | zero => exact absurd HA.out (by simp [spec_DigestOf.l0])
  | succ k1 =>
   have H := HA.out
   clear HA
   simp only [spec_DigestOf.l0] at H
   by_cases c2 : x4_1 < (a0.size : Int)
   ·
    rw [if_pos c2] at H
    have c2b0 : decide (x4_1 < (a0.size : Int)) = true := decide_eq_true c2
    clear c2
    by_cases c3 : 0 ≤ x4_1
    ·
     rw [if_pos c3] at H
     have c3b0 : decide (0 ≤ x4_1) = true := decide_eq_true c3
     clear c3
     have H' := zK H
     clear H
     have p4 : 0 ≤ (x4_1 : Int) := zX zq2
     have q4 : x4_1 < (a0.size : Int) := zX zq2
     have hx4 := bt_at a0 x4_1
     replace p4 := eq_true p4
     replace q4 := eq_true q4
     go_wp2
     go_roundg k1
     case measure => have := HK1.out; omega
     case rel => exact ⟨(Int.tmod (wrap64 ((wrap64 (x3_1 * 131)) + (wrap64 (bt a0 x4_1)))) 65521), (wrap64 (x4_1 + 1)), zq4, zq4, H', ⟨by have := HK1.out; omega⟩, by repeat (first | exact Drawn0.refl _ | apply Drawn0.step)⟩
    rw [if_neg c3] at H
    exact absurd H zq16
   rw [if_neg c2] at H
   have c2b0 : decide (x4_1 < (a0.size : Int)) = false := decide_eq_false c2
   clear c2
   obtain rfl := Option.some.inj H
   go_wp2
   go_ret
   exact ⟨zq4, zq6⟩
def spec_l5Id.l0 : Nat → Int → Int → ByteArray → Int → Option (ByteArray)
 | 0, _, _, _, _ => none
 | k + 1, x0, x5, x6, x7 => if x7 < 4 then (if 0 ≤ (Int.tmod x5 16) then (if (Int.tmod x5 16) ≤ (wrap64 ((Int.tmod x5 16) + 1)) then (if (wrap64 ((Int.tmod x5 16) + 1)) ≤ 16 then (if ((⟨#[48, 49, 50, 51, 52, 53, 54, 55, 56, 57, 97, 98, 99, 100, 101, 102]⟩ : ByteArray).extract ((Int.tmod x5 16) : Int).toNat ((wrap64 ((Int.tmod x5 16) + 1)) : Int).toNat).size + x6.size ≤ 9223372036854775807 then (spec_l5Id.l0 k x0 (wrap64 (Int.tdiv x5 16)) (((⟨#[48, 49, 50, 51, 52, 53, 54, 55, 56, 57, 97, 98, 99, 100, 101, 102]⟩ : ByteArray).extract ((Int.tmod x5 16) : Int).toNat ((wrap64 ((Int.tmod x5 16) + 1)) : Int).toNat) ++ x6) (wrap64 (x7 + 1))) else (none)) else (none)) else (none)) else (none)) else ((spec_l5Letter.f x0).bind fun t118 => (if t118.size + x6.size ≤ 9223372036854775807 then (some (t118 ++ x6)) else (none)))
def spec_l5Id.f (k : Nat) (a0 : Int) (a1 : ByteArray) : Option (ByteArray) := (spec_DigestOf.f k a1).bind fun t117 => (spec_l5Id.l0 k a0 t117 (⟨#[]⟩ : ByteArray) 0)
set_option maxHeartbeats 8000000 in
set_option maxRecDepth 100000 in
theorem spec_l5Id.calls (k : Nat) (a0 : Int) (a1 : ByteArray) (r : ByteArray) (w : World) (h : spec_l5Id.f k a0 a1 = some r) :
  Calls Tryz.prog 119 #[.int .i64 a0, .string a1] w fun e w' => e = .returned (.string r) ∧ Drawn0 w w' := by
 have H : ((spec_DigestOf.f k a1).bind fun t117 => (spec_l5Id.l0 k a0 t117 (⟨#[]⟩ : ByteArray) 0)) = some r := h
 clear h
 replace H := Option.bind_eq_some_iff.mp H
 obtain ⟨t117, A30, H⟩ := H
 replace H : (spec_l5Id.l0 k a0 t117 (⟨#[]⟩ : ByteArray) 0) = some r := H
 have A3 := zK A30
 clear A30
 have H' := zK H
 clear H
 go_enter Tryz.func119, Tryz.ntmps119
 go_wp2_with (first | ((with_reducible refine gate_callee (f := 168) rfl ?_); refine goesL_ (some 10) rfl rfl Tryz.func168 zq3 rfl #[.string a1] rfl zq1 ?_; (with_reducible refine (spec_DigestOf.calls k a1 t117 _ A3.out).mono ?_); rintro e w' ⟨rfl, ⟨nd, rfl⟩⟩; refine ⟨_, rfl, ?_⟩))
 go_loopg [5, 6, 7] k (fun kq v5 v6 v7 w' => ∃ (x5_1 : Int) (x6_1 : ByteArray) (x7_1 : Int), v5 = .int .i64 x5_1 ∧ v6 = .string x6_1 ∧ v7 = .int .i64 x7_1 ∧ Aside0 (spec_l5Id.l0 kq a0 x5_1 x6_1 x7_1 = some r) ∧ Aside0 (kq ≤ k) ∧ Drawn0 w w')
 case atStart => exact ⟨(t117), ((⟨#[]⟩ : ByteArray)), (0), zq4, zq4, zq4, H', ⟨Nat.le_refl _⟩, by repeat (first | exact Drawn0.refl _ | apply Drawn0.step)⟩
 case round =>
  clear H'
  try clear c1
  try clear p2
  obtain ⟨x5_1, x6_1, x7_1, rfl, rfl, rfl, HA, HK1, ⟨m1, rfl⟩⟩ := hrel
  cases gk with
  | zero => exact absurd HA.out (by simp [spec_l5Id.l0])
  | succ k1 =>
   have H := HA.out
   clear HA
   simp only [spec_l5Id.l0] at H
   by_cases c4 : x7_1 < 4
   ·
    rw [if_pos c4] at H
    have c4b0 : decide (x7_1 < 4) = true := decide_eq_true c4
    clear c4
    obtain ⟨ji5, hji5⟩ : ∃ j_ : Int, (Int.tmod x5_1 16) = j_ := ⟨_, rfl⟩
    replace H : (if 0 ≤ (ji5) then (if (ji5) ≤ (wrap64 ((ji5) + 1)) then (if (wrap64 ((ji5) + 1)) ≤ 16 then (if ((⟨#[48, 49, 50, 51, 52, 53, 54, 55, 56, 57, 97, 98, 99, 100, 101, 102]⟩ : ByteArray).extract ((ji5) : Int).toNat ((wrap64 ((ji5) + 1)) : Int).toNat).size + x6_1.size ≤ 9223372036854775807 then (spec_l5Id.l0 k1 a0 (wrap64 (Int.tdiv x5_1 16)) (((⟨#[48, 49, 50, 51, 52, 53, 54, 55, 56, 57, 97, 98, 99, 100, 101, 102]⟩ : ByteArray).extract ((ji5) : Int).toNat ((wrap64 ((ji5) + 1)) : Int).toNat) ++ x6_1) (wrap64 (x7_1 + 1))) else (none)) else (none)) else (none)) else (none)) = some r := by first | (rw [hji5] at H; exact H) | (simp only [hji5] at H ⊢; exact H)
    by_cases c6 : 0 ≤ (ji5)
    ·
     rw [if_pos c6] at H
     have c6b0 := eq_true c6
     have c6b1 : decide (0 ≤ (ji5)) = true := decide_eq_true c6
     clear c6
     by_cases c7 : (ji5) ≤ (wrap64 ((ji5) + 1))
     ·
      rw [if_pos c7] at H
      have c7b0 := eq_true c7
      have c7b1 : decide ((ji5) ≤ (wrap64 ((ji5) + 1))) = true := decide_eq_true c7
      by_cases c8 : (wrap64 ((ji5) + 1)) ≤ 16
      ·
       rw [if_pos c8] at H
       have c8b0 := eq_true c8
       have c8b1 : decide ((wrap64 ((ji5) + 1)) ≤ 16) = true := decide_eq_true c8
       by_cases c9 : ((⟨#[48, 49, 50, 51, 52, 53, 54, 55, 56, 57, 97, 98, 99, 100, 101, 102]⟩ : ByteArray).extract ((ji5) : Int).toNat ((wrap64 ((ji5) + 1)) : Int).toNat).size + x6_1.size ≤ 9223372036854775807
       ·
        rw [if_pos c9] at H
        have c9b0 := eq_true c9
        have c9b1 : decide (((⟨#[48, 49, 50, 51, 52, 53, 54, 55, 56, 57, 97, 98, 99, 100, 101, 102]⟩ : ByteArray).extract ((ji5) : Int).toNat ((wrap64 ((ji5) + 1)) : Int).toNat).size + x6_1.size ≤ 9223372036854775807) = true := decide_eq_true c9
        try have c9b2 : (9223372036854775807 < ((⟨#[48, 49, 50, 51, 52, 53, 54, 55, 56, 57, 97, 98, 99, 100, 101, 102]⟩ : ByteArray).extract ((ji5) : Int).toNat ((wrap64 ((ji5) + 1)) : Int).toNat).size + x6_1.size) = False := eq_false (Nat.not_lt.2 c9)
        have H' := zK H
        clear H
        go_wp2
        go_roundg k1
        case measure => have := HK1.out; omega
        case rel => exact ⟨(wrap64 (Int.tdiv x5_1 16)), (((⟨#[48, 49, 50, 51, 52, 53, 54, 55, 56, 57, 97, 98, 99, 100, 101, 102]⟩ : ByteArray).extract ((ji5) : Int).toNat ((wrap64 ((ji5) + 1)) : Int).toNat) ++ x6_1), (wrap64 (x7_1 + 1)), zq4, (by first | rfl | (simp; done) | (simp only [← hji5] <;> (first | rfl | simp)) | (simp [*]; done)), zq4, H', ⟨by have := HK1.out; omega⟩, by repeat (first | exact Drawn0.refl _ | apply Drawn0.step)⟩
       rw [if_neg c9] at H
       exact absurd H zq16
      rw [if_neg c8] at H
      exact absurd H zq16
     rw [if_neg c7] at H
     exact absurd H zq16
    rw [if_neg c6] at H
    exact absurd H zq16
   rw [if_neg c4] at H
   have c4b0 : decide (x7_1 < 4) = false := decide_eq_false c4
   clear c4
   replace H := Option.bind_eq_some_iff.mp H
   obtain ⟨t118, A100, H⟩ := H
   replace H : (if t118.size + x6_1.size ≤ 9223372036854775807 then (some (t118 ++ x6_1)) else (none)) = some r := H
   have A10 := zK A100
   clear A100
   by_cases c11 : t118.size + x6_1.size ≤ 9223372036854775807
   ·
    rw [if_pos c11] at H
    have c11b0 := eq_true c11
    have c11b1 : decide (t118.size + x6_1.size ≤ 9223372036854775807) = true := decide_eq_true c11
    try have c11b2 : (9223372036854775807 < t118.size + x6_1.size) = False := eq_false (Nat.not_lt.2 c11)
    obtain rfl := Option.some.inj H
    go_wp2_with (first | ((with_reducible refine gate_callee (f := 133) rfl ?_); refine goesL_ (some 26) rfl rfl Tryz.func133 zq3 rfl #[.int .i64 a0] rfl zq1 ?_; (with_reducible refine (spec_l5Letter.calls a0 t118 _ A10.out).mono ?_); rintro e w' ⟨rfl, ⟨nd, rfl⟩⟩; refine ⟨_, rfl, ?_⟩))
    go_ret
    exact ⟨zq4, zq6⟩
   rw [if_neg c11] at H
   exact absurd H zq16
def spec_IdOf.f (k : Nat) (a0 : Int) (a1 : ByteArray) : Option (Int × ByteArray) := (spec_l5Kind.f a0).bind fun t120 => (if t120 = true then ((spec_TextFault.f k a1).bind fun t121 => (if t121 = 0 then ((spec_l5Id.f k a0 a1).bind fun t122 => (some (0, t122))) else (some (t121, (⟨#[]⟩ : ByteArray))))) else (some (3, (⟨#[]⟩ : ByteArray))))
set_option maxHeartbeats 8000000 in
set_option maxRecDepth 100000 in
theorem spec_IdOf.calls (k : Nat) (a0 : Int) (a1 : ByteArray) (r1 : Int) (r2 : ByteArray) (w : World) (h : spec_IdOf.f k a0 a1 = some (r1, r2)) :
  Calls Tryz.prog 72 #[.int .i64 a0, .string a1] w fun e w' => e = .returned (.agg #[.int .i64 r1, .string r2]) ∧ Below w.heap.size w w' := by
 have hu95 := Tryz.underlying95
 have HB := zK (Below.refl w.heap.size w)
 have H : ((spec_l5Kind.f a0).bind fun t120 => (if t120 = true then ((spec_TextFault.f k a1).bind fun t121 => (if t121 = 0 then ((spec_l5Id.f k a0 a1).bind fun t122 => (some (0, t122))) else (some (t121, (⟨#[]⟩ : ByteArray))))) else (some (3, (⟨#[]⟩ : ByteArray))))) = some (r1, r2) := h
 clear h
 replace H := Option.bind_eq_some_iff.mp H
 obtain ⟨t120, A30, H⟩ := H
 replace H : (if t120 = true then ((spec_TextFault.f k a1).bind fun t121 => (if t121 = 0 then ((spec_l5Id.f k a0 a1).bind fun t122 => (some (0, t122))) else (some (t121, (⟨#[]⟩ : ByteArray))))) else (some (3, (⟨#[]⟩ : ByteArray)))) = some (r1, r2) := H
 have A3 := zK A30
 clear A30
 by_cases c4 : t120 = true
 ·
  subst c4
  have H1 : ((spec_TextFault.f k a1).bind fun t121 => (if t121 = 0 then ((spec_l5Id.f k a0 a1).bind fun t122 => (some (0, t122))) else (some (t121, (⟨#[]⟩ : ByteArray))))) = some (r1, r2) := by rw [if_pos rfl] at H; exact H
  clear H
  have H := H1
  clear H1
  replace H := Option.bind_eq_some_iff.mp H
  obtain ⟨t121, A50, H⟩ := H
  replace H : (if t121 = 0 then ((spec_l5Id.f k a0 a1).bind fun t122 => (some (0, t122))) else (some (t121, (⟨#[]⟩ : ByteArray)))) = some (r1, r2) := H
  have A5 := zK A50
  clear A50
  by_cases c6 : t121 = 0
  ·
   rw [if_pos c6] at H
   have c6b0 : (t121 == 0) = true := beq_iff_eq.mpr c6
   have c6b1 : (t121 != 0) = false := bne_eq_false_iff_eq.mpr c6
   clear c6
   replace H := Option.bind_eq_some_iff.mp H
   obtain ⟨t122, A70, H⟩ := H
   replace H : (some (0, t122)) = some (r1, r2) := H
   have A7 := zK A70
   clear A70
   simp only [Option.some.injEq, Prod.mk.injEq] at H
   obtain ⟨rfl, rfl⟩ := H
   go_enter Tryz.func72, Tryz.ntmps72
   go_wp2_with (first | ((with_reducible refine gate_dst (N := 4) rfl ?_); refine box_event ?hg (N := 4) ?hd (cs := #[.int .i64 0, .string (⟨#[]⟩ : ByteArray)]) (t := 95) ?hr ?_; (case hd => rfl); (case hg => rfl); (case hr => first | (go_simp; done) | (go_simp; rfl)); intro gb119 hg w8 hbox hb; have n0_ := zK (below_step zq0 hb); have n1_ := zK (hbox); have n2_ := zK ((by rw [hg]; exact (below_size zq0) : w.heap.size ≤ gb119)); have n3_ := zK ((by rw [hg]; exact (below_size zq0) : w.heap.size ≤ gb119)); clear HB; have HB := n0_; have BK119 := n1_; have GW119 := n2_; have GE119 := n3_; clear n0_ n1_ n2_ n3_; clear hb hbox hg) | ((with_reducible refine gate_callee (f := 117) rfl ?_); refine goesL_ (some 7) rfl rfl Tryz.func117 zq3 rfl #[.int .i64 a0] rfl zq1 ?_; (with_reducible refine (spec_l5Kind.calls a0 true _ A3.out).mono ?_); rintro e w' ⟨rfl, ⟨nd, rfl⟩⟩; refine ⟨_, rfl, ?_⟩; (try (rw [drewN_self w8]; generalize hq_ : World.drewN w8 _ = w8; have n0_ : Aside0 (w8.heap[gb119]? = some (.cells #[.int .i64 0, .string (⟨#[]⟩ : ByteArray)] 95 (0, 0))) := ⟨by rw [← hq_]; exact (by (with_reducible repeat (first | refine zM ?_ _ | refine zP ?_ | refine zQ ?_ _)); exact BK119.out)⟩; have n1_ : Aside0 (Below w.heap.size w w8) := ⟨by rw [← hq_]; exact (by repeat (first | (with_reducible first | exact HB.out | apply zA | apply zN | apply zD | refine below_set ?_ GE119.out) | exact HB.out))⟩; clear BK119 HB hq_; have BK119 := n0_; have HB := n1_; clear n0_ n1_))) | ((with_reducible refine gate_callee (f := 118) rfl ?_); refine goesL_ (some 11) rfl rfl Tryz.func118 zq3 rfl #[.string a1] rfl zq1 ?_; (with_reducible refine (spec_TextFault.calls k a1 t121 _ A5.out).mono ?_); rintro e w9 ⟨rfl, hb⟩; refine ⟨_, rfl, ?_⟩; have n0_ := zK (blk_below (g := gb119) (o := .cells #[.int .i64 0, .string (⟨#[]⟩ : ByteArray)] 95 (0, 0)) (by (with_reducible repeat (first | refine zM ?_ _ | refine zP ?_ | refine zQ ?_ _)); exact BK119.out) hb); have n1_ := zK (below_step (by repeat (first | (with_reducible first | exact HB.out | apply zA | apply zN | apply zD | refine below_set ?_ GE119.out) | exact HB.out)) hb); clear BK119; clear HB; have BK119 := n0_; have HB := n1_; clear n0_ n1_; (try clear hb); (try clear hb2); (try clear hk); (try clear hi)) | ((with_reducible refine gate_callee (f := 119) rfl ?_); refine goesL_ (some 18) rfl rfl Tryz.func119 zq3 rfl #[.int .i64 a0, .string a1] rfl zq1 ?_; (with_reducible refine (spec_l5Id.calls k a0 a1 t122 _ A7.out).mono ?_); rintro e w' ⟨rfl, ⟨nd, rfl⟩⟩; refine ⟨_, rfl, ?_⟩; (try (rw [drewN_self w9]; generalize hq_ : World.drewN w9 _ = w9; have n0_ : Aside0 (w9.heap[gb119]? = some (.cells #[.int .i64 0, .string (⟨#[]⟩ : ByteArray)] 95 (0, 0))) := ⟨by rw [← hq_]; exact (by (with_reducible repeat (first | refine zM ?_ _ | refine zP ?_ | refine zQ ?_ _)); exact BK119.out)⟩; have n1_ : Aside0 (Below w.heap.size w w9) := ⟨by rw [← hq_]; exact (by repeat (first | (with_reducible first | exact HB.out | apply zA | apply zN | apply zD | refine below_set ?_ GE119.out) | exact HB.out))⟩; clear BK119 HB hq_; have BK119 := n0_; have HB := n1_; clear n0_ n1_)); have hcz10_0 : w9.cell? ⟨gb119, 0, none⟩ = some (.int .i64 0) := (blk_cell BK119.out 0).trans rfl; have hcz10_1 : w9.cell? ⟨gb119, 1, none⟩ = some (.string (⟨#[]⟩ : ByteArray)) := (blk_cell BK119.out 1).trans rfl; have hfz10_0 := blk_frozen BK119.out 0; have hfz10_1 := blk_frozen BK119.out 1))
   refine bodyPost_ret (results_cell_row rfl _ _ gb119 95 #[.int .i64 0, .string t122] (0, 0) _ rfl (by (with_reducible repeat (first | refine zM ?_ _ | refine zP ?_ | refine zQ ?_ _)); refine blk_put (cs := #[.int .i64 0, .string (⟨#[]⟩ : ByteArray)]) ?_ 1 _ rfl; (with_reducible repeat (first | refine zM ?_ _ | refine zP ?_ | refine zQ ?_ _)); refine blk_put (cs := #[.int .i64 0, .string (⟨#[]⟩ : ByteArray)]) ?_ 0 _ rfl; (with_reducible repeat (first | refine zM ?_ _ | refine zP ?_ | refine zQ ?_ _)); exact BK119.out) Tryz.underlying95 rfl zq3) rfl ?_
   exact ⟨zq5, (by repeat (first | (with_reducible first | exact HB.out | apply zA | apply zN | apply zD | refine below_set ?_ GE119.out) | exact HB.out))⟩
  rw [if_neg c6] at H
  have c6b0 : (t121 == 0) = false := beq_eq_false_iff_ne.mpr c6
  have c6b1 : (t121 != 0) = true := bne_iff_ne.mpr c6
  simp only [Option.some.injEq, Prod.mk.injEq] at H
  obtain ⟨rfl, rfl⟩ := H
  go_enter Tryz.func72, Tryz.ntmps72
  go_wp2_with (first | ((with_reducible refine gate_dst (N := 4) rfl ?_); refine box_event ?hg (N := 4) ?hd (cs := #[.int .i64 0, .string (⟨#[]⟩ : ByteArray)]) (t := 95) ?hr ?_; (case hd => rfl); (case hg => rfl); (case hr => first | (go_simp; done) | (go_simp; rfl)); intro gb119 hg w11 hbox hb; have n0_ := zK (below_step zq0 hb); have n1_ := zK (hbox); have n2_ := zK ((by rw [hg]; exact (below_size zq0) : w.heap.size ≤ gb119)); have n3_ := zK ((by rw [hg]; exact (below_size zq0) : w.heap.size ≤ gb119)); clear HB; have HB := n0_; have BK119 := n1_; have GW119 := n2_; have GE119 := n3_; clear n0_ n1_ n2_ n3_; clear hb hbox hg) | ((with_reducible refine gate_callee (f := 117) rfl ?_); refine goesL_ (some 7) rfl rfl Tryz.func117 zq3 rfl #[.int .i64 a0] rfl zq1 ?_; (with_reducible refine (spec_l5Kind.calls a0 true _ A3.out).mono ?_); rintro e w' ⟨rfl, ⟨nd, rfl⟩⟩; refine ⟨_, rfl, ?_⟩; (try (rw [drewN_self w11]; generalize hq_ : World.drewN w11 _ = w11; have n0_ : Aside0 (w11.heap[gb119]? = some (.cells #[.int .i64 0, .string (⟨#[]⟩ : ByteArray)] 95 (0, 0))) := ⟨by rw [← hq_]; exact (by (with_reducible repeat (first | refine zM ?_ _ | refine zP ?_ | refine zQ ?_ _)); exact BK119.out)⟩; have n1_ : Aside0 (Below w.heap.size w w11) := ⟨by rw [← hq_]; exact (by repeat (first | (with_reducible first | exact HB.out | apply zA | apply zN | apply zD | refine below_set ?_ GE119.out) | exact HB.out))⟩; clear BK119 HB hq_; have BK119 := n0_; have HB := n1_; clear n0_ n1_))) | ((with_reducible refine gate_callee (f := 118) rfl ?_); refine goesL_ (some 11) rfl rfl Tryz.func118 zq3 rfl #[.string a1] rfl zq1 ?_; (with_reducible refine (spec_TextFault.calls k a1 t121 _ A5.out).mono ?_); rintro e w12 ⟨rfl, hb⟩; refine ⟨_, rfl, ?_⟩; have n0_ := zK (blk_below (g := gb119) (o := .cells #[.int .i64 0, .string (⟨#[]⟩ : ByteArray)] 95 (0, 0)) (by (with_reducible repeat (first | refine zM ?_ _ | refine zP ?_ | refine zQ ?_ _)); exact BK119.out) hb); have n1_ := zK (below_step (by repeat (first | (with_reducible first | exact HB.out | apply zA | apply zN | apply zD | refine below_set ?_ GE119.out) | exact HB.out)) hb); clear BK119; clear HB; have BK119 := n0_; have HB := n1_; clear n0_ n1_; (try clear hb); (try clear hb2); (try clear hk); (try clear hi); have hcz13_0 : w12.cell? ⟨gb119, 0, none⟩ = some (.int .i64 0) := (blk_cell BK119.out 0).trans rfl; have hcz13_1 : w12.cell? ⟨gb119, 1, none⟩ = some (.string (⟨#[]⟩ : ByteArray)) := (blk_cell BK119.out 1).trans rfl; have hfz13_0 := blk_frozen BK119.out 0; have hfz13_1 := blk_frozen BK119.out 1))
  refine bodyPost_ret (results_cell_row rfl _ _ gb119 95 #[.int .i64 t121, .string (⟨#[]⟩ : ByteArray)] (0, 0) _ rfl (by (with_reducible repeat (first | refine zM ?_ _ | refine zP ?_ | refine zQ ?_ _)); refine blk_put (cs := #[.int .i64 t121, .string (⟨#[]⟩ : ByteArray)]) ?_ 1 _ rfl; (with_reducible repeat (first | refine zM ?_ _ | refine zP ?_ | refine zQ ?_ _)); refine blk_put (cs := #[.int .i64 0, .string (⟨#[]⟩ : ByteArray)]) ?_ 0 _ rfl; (with_reducible repeat (first | refine zM ?_ _ | refine zP ?_ | refine zQ ?_ _)); exact BK119.out) Tryz.underlying95 rfl zq3) rfl ?_
  exact ⟨zq5, (by repeat (first | (with_reducible first | exact HB.out | apply zA | apply zN | apply zD | refine below_set ?_ GE119.out) | exact HB.out))⟩
 replace c4 := Bool.eq_false_iff.mpr c4
 subst c4
 have H1 : (some (3, (⟨#[]⟩ : ByteArray))) = some (r1, r2) := by rw [if_neg (show ¬ (false = true) by decide)] at H; exact H
 clear H
 have H := H1
 clear H1
 simp only [Option.some.injEq, Prod.mk.injEq] at H
 obtain ⟨rfl, rfl⟩ := H
 go_enter Tryz.func72, Tryz.ntmps72
 go_wp2_with (first | ((with_reducible refine gate_dst (N := 4) rfl ?_); refine box_event ?hg (N := 4) ?hd (cs := #[.int .i64 0, .string (⟨#[]⟩ : ByteArray)]) (t := 95) ?hr ?_; (case hd => rfl); (case hg => rfl); (case hr => first | (go_simp; done) | (go_simp; rfl)); intro gb119 hg w14 hbox hb; have n0_ := zK (below_step zq0 hb); have n1_ := zK (hbox); have n2_ := zK ((by rw [hg]; exact (below_size zq0) : w.heap.size ≤ gb119)); have n3_ := zK ((by rw [hg]; exact (below_size zq0) : w.heap.size ≤ gb119)); clear HB; have HB := n0_; have BK119 := n1_; have GW119 := n2_; have GE119 := n3_; clear n0_ n1_ n2_ n3_; clear hb hbox hg) | ((with_reducible refine gate_callee (f := 117) rfl ?_); refine goesL_ (some 7) rfl rfl Tryz.func117 zq3 rfl #[.int .i64 a0] rfl zq1 ?_; (with_reducible refine (spec_l5Kind.calls a0 false _ A3.out).mono ?_); rintro e w' ⟨rfl, ⟨nd, rfl⟩⟩; refine ⟨_, rfl, ?_⟩; (try (rw [drewN_self w14]; generalize hq_ : World.drewN w14 _ = w14; have n0_ : Aside0 (w14.heap[gb119]? = some (.cells #[.int .i64 0, .string (⟨#[]⟩ : ByteArray)] 95 (0, 0))) := ⟨by rw [← hq_]; exact (by (with_reducible repeat (first | refine zM ?_ _ | refine zP ?_ | refine zQ ?_ _)); exact BK119.out)⟩; have n1_ : Aside0 (Below w.heap.size w w14) := ⟨by rw [← hq_]; exact (by repeat (first | (with_reducible first | exact HB.out | apply zA | apply zN | apply zD | refine below_set ?_ GE119.out) | exact HB.out))⟩; clear BK119 HB hq_; have BK119 := n0_; have HB := n1_; clear n0_ n1_)); have hcz15_0 : w14.cell? ⟨gb119, 0, none⟩ = some (.int .i64 0) := (blk_cell BK119.out 0).trans rfl; have hcz15_1 : w14.cell? ⟨gb119, 1, none⟩ = some (.string (⟨#[]⟩ : ByteArray)) := (blk_cell BK119.out 1).trans rfl; have hfz15_0 := blk_frozen BK119.out 0; have hfz15_1 := blk_frozen BK119.out 1))
 refine bodyPost_ret (results_cell_row rfl _ _ gb119 95 #[.int .i64 3, .string (⟨#[]⟩ : ByteArray)] (0, 0) _ rfl (by (with_reducible repeat (first | refine zM ?_ _ | refine zP ?_ | refine zQ ?_ _)); refine blk_put (cs := #[.int .i64 3, .string (⟨#[]⟩ : ByteArray)]) ?_ 1 _ rfl; (with_reducible repeat (first | refine zM ?_ _ | refine zP ?_ | refine zQ ?_ _)); refine blk_put (cs := #[.int .i64 0, .string (⟨#[]⟩ : ByteArray)]) ?_ 0 _ rfl; (with_reducible repeat (first | refine zM ?_ _ | refine zP ?_ | refine zQ ?_ _)); exact BK119.out) Tryz.underlying95 rfl zq3) rfl ?_
 exact ⟨zq5, (by repeat (first | (with_reducible first | exact HB.out | apply zA | apply zN | apply zD | refine below_set ?_ GE119.out) | exact HB.out))⟩
mutual
def spec_IsId.j0 : Nat → ByteArray → Bool → Option (Bool)
 | 0, _, _ => none
 | k + 1, x0, x21 => if x21 = true then (some false) else (spec_IsId.l0 k x0 1)
def spec_IsId.l0 : Nat → ByteArray → Int → Option (Bool)
 | 0, _, _ => none
 | k + 1, x0, x3 => if x3 < 5 then (if 0 ≤ x3 then (if x3 < (x0.size : Int) then (if (bt x0 x3) < 48 then (if (bt x0 x3) < 97 then (some false) else (if (bt x0 x3) > 102 then (some false) else (spec_IsId.l0 k x0 (wrap64 (x3 + 1))))) else (if (bt x0 x3) > 57 then (if (bt x0 x3) < 97 then (some false) else (if (bt x0 x3) > 102 then (some false) else (spec_IsId.l0 k x0 (wrap64 (x3 + 1))))) else (spec_IsId.l0 k x0 (wrap64 (x3 + 1))))) else (none)) else (none)) else (some true)
end
def spec_IsId.f (k : Nat) (a0 : ByteArray) : Option (Bool) := if (a0.size : Int) = 5 then (if 0 < (a0.size : Int) then (if (bt a0 0) = 98 then (spec_IsId.j0 k a0 false) else (if (bt a0 0) = 116 then (spec_IsId.j0 k a0 false) else (spec_IsId.j0 k a0 ((bt a0 0) != 99)))) else (none)) else (spec_IsId.j0 k a0 true)
set_option maxHeartbeats 8000000 in
set_option maxRecDepth 100000 in
theorem spec_IsId.calls (k : Nat) (a0 : ByteArray) (r : Bool) (w : World) (h : spec_IsId.f k a0 = some r) :
  Calls Tryz.prog 132 #[.string a0] w fun e w' => e = .returned (.bool r) ∧ Drawn0 w w' := by
 have H : (if (a0.size : Int) = 5 then (if 0 < (a0.size : Int) then (if (bt a0 0) = 98 then (spec_IsId.j0 k a0 false) else (if (bt a0 0) = 116 then (spec_IsId.j0 k a0 false) else (spec_IsId.j0 k a0 ((bt a0 0) != 99)))) else (none)) else (spec_IsId.j0 k a0 true)) = some r := h
 clear h
 have HC2 := zK H
 clear H
 go_enter Tryz.func132, Tryz.ntmps132
 go_upto_region 1 with (fail)
 go_cut [21] (fun v21 wc => ∃ (kq : Nat) (x21_1 : Bool), v21 = .bool x21_1 ∧ Aside0 (spec_IsId.j0 kq a0 x21_1 = some r) ∧ Aside0 (kq ≤ k) ∧ Drawn0 w wc)
 case first =>
  have H := HC2.out
  clear HC2
  by_cases c3 : (a0.size : Int) = 5
  ·
   rw [if_pos c3] at H
   have c3b0 : ((a0.size : Int) == 5) = true := beq_iff_eq.mpr c3
   have c3b1 : ((a0.size : Int) != 5) = false := bne_eq_false_iff_eq.mpr c3
   clear c3
   (first | rw [c3b0] | (simp only [i64_w, i32_w]; rw [c3b0]) | skip)
   by_cases c4 : 0 < (a0.size : Int)
   ·
    rw [if_pos c4] at H
    have c4b0 : decide (0 < (a0.size : Int)) = true := decide_eq_true c4
    have c4b1 : decide (0 < a0.size) = true := decide_eq_true zq7
    clear c4
    by_cases c6 : (bt a0 0) = 98
    ·
     rw [if_pos c6] at H
     have c6b0 : ((bt a0 0) == 98) = true := beq_iff_eq.mpr c6
     have c6b1 : ((bt a0 0) != 98) = false := bne_eq_false_iff_eq.mpr c6
     clear c6
     have H' := zK H
     clear H
     have p5 : 0 ≤ (0 : Int) := zq7
     have q5 : 0 < a0.size := (by have : (0 : Int) < (a0.size : Int) := zX zq2; omega)
     have hx5 : ∀ h : 0 < a0.size, ((a0[0]'h).toNat : Int) = bt a0 0 := bt_at a0 0
     clear p5
     have qi5 : (0 < (a0.size : Int)) = True := eq_true (zX zq2)
     replace q5 := eq_true q5
     go_wp2
     go_meet
     case rel => exact ⟨_, (false), zq4, H', ⟨by first | omega | exact Nat.le_refl _⟩, by repeat (first | exact Drawn0.refl _ | apply Drawn0.step)⟩
    rw [if_neg c6] at H
    have c6b0 : ((bt a0 0) == 98) = false := beq_eq_false_iff_ne.mpr c6
    have c6b1 : ((bt a0 0) != 98) = true := bne_iff_ne.mpr c6
    by_cases c8 : (bt a0 0) = 116
    ·
     rw [if_pos c8] at H
     have c8b0 : ((bt a0 0) == 116) = true := beq_iff_eq.mpr c8
     have c8b1 : ((bt a0 0) != 116) = false := bne_eq_false_iff_eq.mpr c8
     clear c8
     have H' := zK H
     clear H
     have p5 : 0 ≤ (0 : Int) := zq7
     have q5 : 0 < a0.size := (by have : (0 : Int) < (a0.size : Int) := zX zq2; omega)
     have hx5 : ∀ h : 0 < a0.size, ((a0[0]'h).toNat : Int) = bt a0 0 := bt_at a0 0
     clear p5
     have qi5 : (0 < (a0.size : Int)) = True := eq_true (zX zq2)
     replace q5 := eq_true q5
     have p7 : 0 ≤ (0 : Int) := zq7
     have q7 : 0 < a0.size := (by have : (0 : Int) < (a0.size : Int) := zX zq2; omega)
     have hx7 : ∀ h : 0 < a0.size, ((a0[0]'h).toNat : Int) = bt a0 0 := bt_at a0 0
     clear p7
     have qi7 : (0 < (a0.size : Int)) = True := eq_true (zX zq2)
     replace q7 := eq_true q7
     go_wp2
     go_meet
     case rel => exact ⟨_, (false), zq4, H', ⟨by first | omega | exact Nat.le_refl _⟩, by repeat (first | exact Drawn0.refl _ | apply Drawn0.step)⟩
    rw [if_neg c8] at H
    have c8b0 : ((bt a0 0) == 116) = false := beq_eq_false_iff_ne.mpr c8
    have c8b1 : ((bt a0 0) != 116) = true := bne_iff_ne.mpr c8
    have H' := zK H
    clear H
    have p5 : 0 ≤ (0 : Int) := zq7
    have q5 : 0 < a0.size := (by have : (0 : Int) < (a0.size : Int) := zX zq2; omega)
    have hx5 : ∀ h : 0 < a0.size, ((a0[0]'h).toNat : Int) = bt a0 0 := bt_at a0 0
    clear p5
    have qi5 : (0 < (a0.size : Int)) = True := eq_true (zX zq2)
    replace q5 := eq_true q5
    have p7 : 0 ≤ (0 : Int) := zq7
    have q7 : 0 < a0.size := (by have : (0 : Int) < (a0.size : Int) := zX zq2; omega)
    have hx7 : ∀ h : 0 < a0.size, ((a0[0]'h).toNat : Int) = bt a0 0 := bt_at a0 0
    clear p7
    have qi7 : (0 < (a0.size : Int)) = True := eq_true (zX zq2)
    replace q7 := eq_true q7
    have p9 : 0 ≤ (0 : Int) := zq7
    have q9 : 0 < a0.size := (by have : (0 : Int) < (a0.size : Int) := zX zq2; omega)
    have hx9 : ∀ h : 0 < a0.size, ((a0[0]'h).toNat : Int) = bt a0 0 := bt_at a0 0
    clear p9
    have qi9 : (0 < (a0.size : Int)) = True := eq_true (zX zq2)
    replace q9 := eq_true q9
    go_wp2
    go_meet
    case rel => exact ⟨_, (((bt a0 0) != 99)), zq4, H', ⟨by first | omega | exact Nat.le_refl _⟩, by repeat (first | exact Drawn0.refl _ | apply Drawn0.step)⟩
   rw [if_neg c4] at H
   exact absurd H zq16
  rw [if_neg c3] at H
  have c3b0 : ((a0.size : Int) == 5) = false := beq_eq_false_iff_ne.mpr c3
  have c3b1 : ((a0.size : Int) != 5) = true := bne_iff_ne.mpr c3
  (first | rw [c3b0] | (simp only [i64_w, i32_w]; rw [c3b0]) | skip)
  have H' := zK H
  clear H
  go_wp2
  go_meet
  case rel => exact ⟨_, (true), zq4, H', ⟨by first | omega | exact Nat.le_refl _⟩, by repeat (first | exact Drawn0.refl _ | apply Drawn0.step)⟩
 case rest =>
  clear HC2
  try clear c1
  try clear p2
  try clear c3
  try clear c3b0
  try clear c3b1
  try clear c4
  try clear c4b0
  try clear c4b1
  try clear p5
  try clear q5
  try clear hx5
  try clear qi5
  try clear c6
  try clear c6b0
  try clear c6b1
  try clear p7
  try clear q7
  try clear hx7
  try clear qi7
  try clear c8
  try clear c8b0
  try clear c8b1
  try clear p9
  try clear q9
  try clear hx9
  try clear qi9
  try clear p5
  try clear p7
  try clear p9
  try clear q5
  try clear q7
  try clear q9
  obtain ⟨kq, x21_1, rfl, HA, HJ1, ⟨mc1, rfl⟩⟩ := hcut
  cases kq with
  | zero => exact absurd HA.out (by simp [spec_IsId.j0])
  | succ kj1 =>
   have H := HA.out
   clear HA
   simp only [spec_IsId.j0] at H
   by_cases c10 : x21_1 = true
   ·
    subst c10
    have H1 : (some false) = some r := by rw [if_pos rfl] at H; exact H
    clear H
    have H := H1
    clear H1
    obtain rfl := Option.some.inj H
    go_wp2
    go_ret
    exact ⟨zq4, zq6⟩
   replace c10 := Bool.eq_false_iff.mpr c10
   subst c10
   have H1 : (spec_IsId.l0 kj1 a0 1) = some r := by rw [if_neg (show ¬ (false = true) by decide)] at H; exact H
   clear H
   have H := H1
   clear H1
   have H' := zK H
   clear H
   go_wp2
   go_loopg [3] kj1 (fun kq v3 w' => ∃ (x3_2 : Int), v3 = .int .i64 x3_2 ∧ Aside0 (spec_IsId.l0 kq a0 x3_2 = some r) ∧ Aside0 (kq ≤ kj1) ∧ Drawn0 w w')
   case atStart => exact ⟨(1), zq4, H', ⟨Nat.le_refl _⟩, by repeat (first | exact Drawn0.refl _ | apply Drawn0.step)⟩
   case round =>
    clear H'
    try clear c1
    try clear p2
    try clear c3
    try clear c3b0
    try clear c3b1
    try clear c4
    try clear c4b0
    try clear c4b1
    try clear p5
    try clear q5
    try clear hx5
    try clear qi5
    try clear c6
    try clear c6b0
    try clear c6b1
    try clear p7
    try clear q7
    try clear hx7
    try clear qi7
    try clear c8
    try clear c8b0
    try clear c8b1
    try clear p9
    try clear q9
    try clear hx9
    try clear qi9
    try clear c10
    try clear p2
    try clear p5
    try clear p7
    try clear p9
    try clear q5
    try clear q7
    try clear q9
    obtain ⟨x3_2, rfl, HA, HK2, ⟨m2, rfl⟩⟩ := hrel
    cases gk with
    | zero => exact absurd HA.out (by simp [spec_IsId.l0])
    | succ k2 =>
     have H := HA.out
     clear HA
     simp only [spec_IsId.l0] at H
     by_cases c11 : x3_2 < 5
     ·
      rw [if_pos c11] at H
      have c11b0 : decide (x3_2 < 5) = true := decide_eq_true c11
      clear c11
      by_cases c12 : 0 ≤ x3_2
      ·
       rw [if_pos c12] at H
       have c12b0 : decide (0 ≤ x3_2) = true := decide_eq_true c12
       clear c12
       by_cases c13 : x3_2 < (a0.size : Int)
       ·
        rw [if_pos c13] at H
        have c13b0 : decide (x3_2 < (a0.size : Int)) = true := decide_eq_true c13
        clear c13
        by_cases c15 : (bt a0 x3_2) < 48
        ·
         rw [if_pos c15] at H
         have c15b0 : decide ((bt a0 x3_2) < 48) = true := decide_eq_true c15
         clear c15
         by_cases c17 : (bt a0 x3_2) < 97
         ·
          rw [if_pos c17] at H
          have c17b0 : decide ((bt a0 x3_2) < 97) = true := decide_eq_true c17
          clear c17
          obtain rfl := Option.some.inj H
          have p14 : 0 ≤ (x3_2 : Int) := zX zq2
          have q14 : x3_2 < (a0.size : Int) := zX zq2
          have hx14 := bt_at a0 x3_2
          replace p14 := eq_true p14
          replace q14 := eq_true q14
          have p16 : 0 ≤ (x3_2 : Int) := zX zq2
          have q16 : x3_2 < (a0.size : Int) := zX zq2
          have hx16 := bt_at a0 x3_2
          replace p16 := eq_true p16
          replace q16 := eq_true q16
          go_wp2
          go_ret
          exact ⟨zq4, zq6⟩
         rw [if_neg c17] at H
         have c17b0 : decide ((bt a0 x3_2) < 97) = false := decide_eq_false c17
         clear c17
         by_cases c19 : (bt a0 x3_2) > 102
         ·
          rw [if_pos c19] at H
          have c19b0 : decide (102 < (bt a0 x3_2)) = true := decide_eq_true c19
          clear c19
          obtain rfl := Option.some.inj H
          have p14 : 0 ≤ (x3_2 : Int) := zX zq2
          have q14 : x3_2 < (a0.size : Int) := zX zq2
          have hx14 := bt_at a0 x3_2
          replace p14 := eq_true p14
          replace q14 := eq_true q14
          have p16 : 0 ≤ (x3_2 : Int) := zX zq2
          have q16 : x3_2 < (a0.size : Int) := zX zq2
          have hx16 := bt_at a0 x3_2
          replace p16 := eq_true p16
          replace q16 := eq_true q16
          have p18 : 0 ≤ (x3_2 : Int) := zX zq2
          have q18 : x3_2 < (a0.size : Int) := zX zq2
          have hx18 := bt_at a0 x3_2
          replace p18 := eq_true p18
          replace q18 := eq_true q18
          go_wp2
          go_ret
          exact ⟨zq4, zq6⟩
         rw [if_neg c19] at H
         have c19b0 : decide (102 < (bt a0 x3_2)) = false := decide_eq_false c19
         clear c19
         have H' := zK H
         clear H
         have p14 : 0 ≤ (x3_2 : Int) := zX zq2
         have q14 : x3_2 < (a0.size : Int) := zX zq2
         have hx14 := bt_at a0 x3_2
         replace p14 := eq_true p14
         replace q14 := eq_true q14
         have p16 : 0 ≤ (x3_2 : Int) := zX zq2
         have q16 : x3_2 < (a0.size : Int) := zX zq2
         have hx16 := bt_at a0 x3_2
         replace p16 := eq_true p16
         replace q16 := eq_true q16
         have p18 : 0 ≤ (x3_2 : Int) := zX zq2
         have q18 : x3_2 < (a0.size : Int) := zX zq2
         have hx18 := bt_at a0 x3_2
         replace p18 := eq_true p18
         replace q18 := eq_true q18
         go_wp2
         go_roundg k2
         case measure => have := HJ1.out; have := HK2.out; omega
         case rel => exact ⟨(wrap64 (x3_2 + 1)), zq4, H', ⟨by have := HJ1.out; have := HK2.out; omega⟩, by repeat (first | exact Drawn0.refl _ | apply Drawn0.step)⟩
        rw [if_neg c15] at H
        have c15b0 : decide ((bt a0 x3_2) < 48) = false := decide_eq_false c15
        clear c15
        by_cases c21 : (bt a0 x3_2) > 57
        ·
         rw [if_pos c21] at H
         have c21b0 : decide (57 < (bt a0 x3_2)) = true := decide_eq_true c21
         clear c21
         by_cases c23 : (bt a0 x3_2) < 97
         ·
          rw [if_pos c23] at H
          have c23b0 : decide ((bt a0 x3_2) < 97) = true := decide_eq_true c23
          clear c23
          obtain rfl := Option.some.inj H
          have p14 : 0 ≤ (x3_2 : Int) := zX zq2
          have q14 : x3_2 < (a0.size : Int) := zX zq2
          have hx14 := bt_at a0 x3_2
          replace p14 := eq_true p14
          replace q14 := eq_true q14
          have p20 : 0 ≤ (x3_2 : Int) := zX zq2
          have q20 : x3_2 < (a0.size : Int) := zX zq2
          have hx20 := bt_at a0 x3_2
          replace p20 := eq_true p20
          replace q20 := eq_true q20
          have p22 : 0 ≤ (x3_2 : Int) := zX zq2
          have q22 : x3_2 < (a0.size : Int) := zX zq2
          have hx22 := bt_at a0 x3_2
          replace p22 := eq_true p22
          replace q22 := eq_true q22
          go_wp2
          go_ret
          exact ⟨zq4, zq6⟩
         rw [if_neg c23] at H
         have c23b0 : decide ((bt a0 x3_2) < 97) = false := decide_eq_false c23
         clear c23
         by_cases c25 : (bt a0 x3_2) > 102
         ·
          rw [if_pos c25] at H
          have c25b0 : decide (102 < (bt a0 x3_2)) = true := decide_eq_true c25
          clear c25
          obtain rfl := Option.some.inj H
          have p14 : 0 ≤ (x3_2 : Int) := zX zq2
          have q14 : x3_2 < (a0.size : Int) := zX zq2
          have hx14 := bt_at a0 x3_2
          replace p14 := eq_true p14
          replace q14 := eq_true q14
          have p20 : 0 ≤ (x3_2 : Int) := zX zq2
          have q20 : x3_2 < (a0.size : Int) := zX zq2
          have hx20 := bt_at a0 x3_2
          replace p20 := eq_true p20
          replace q20 := eq_true q20
          have p22 : 0 ≤ (x3_2 : Int) := zX zq2
          have q22 : x3_2 < (a0.size : Int) := zX zq2
          have hx22 := bt_at a0 x3_2
          replace p22 := eq_true p22
          replace q22 := eq_true q22
          have p24 : 0 ≤ (x3_2 : Int) := zX zq2
          have q24 : x3_2 < (a0.size : Int) := zX zq2
          have hx24 := bt_at a0 x3_2
          replace p24 := eq_true p24
          replace q24 := eq_true q24
          go_wp2
          go_ret
          exact ⟨zq4, zq6⟩
         rw [if_neg c25] at H
         have c25b0 : decide (102 < (bt a0 x3_2)) = false := decide_eq_false c25
         clear c25
         have H' := zK H
         clear H
         have p14 : 0 ≤ (x3_2 : Int) := zX zq2
         have q14 : x3_2 < (a0.size : Int) := zX zq2
         have hx14 := bt_at a0 x3_2
         replace p14 := eq_true p14
         replace q14 := eq_true q14
         have p20 : 0 ≤ (x3_2 : Int) := zX zq2
         have q20 : x3_2 < (a0.size : Int) := zX zq2
         have hx20 := bt_at a0 x3_2
         replace p20 := eq_true p20
         replace q20 := eq_true q20
         have p22 : 0 ≤ (x3_2 : Int) := zX zq2
         have q22 : x3_2 < (a0.size : Int) := zX zq2
         have hx22 := bt_at a0 x3_2
         replace p22 := eq_true p22
         replace q22 := eq_true q22
         have p24 : 0 ≤ (x3_2 : Int) := zX zq2
         have q24 : x3_2 < (a0.size : Int) := zX zq2
         have hx24 := bt_at a0 x3_2
         replace p24 := eq_true p24
         replace q24 := eq_true q24
         go_wp2
         go_roundg k2
         case measure => have := HJ1.out; have := HK2.out; omega
         case rel => exact ⟨(wrap64 (x3_2 + 1)), zq4, H', ⟨by have := HJ1.out; have := HK2.out; omega⟩, by repeat (first | exact Drawn0.refl _ | apply Drawn0.step)⟩
        rw [if_neg c21] at H
        have c21b0 : decide (57 < (bt a0 x3_2)) = false := decide_eq_false c21
        clear c21
        have H' := zK H
        clear H
        have p14 : 0 ≤ (x3_2 : Int) := zX zq2
        have q14 : x3_2 < (a0.size : Int) := zX zq2
        have hx14 := bt_at a0 x3_2
        replace p14 := eq_true p14
        replace q14 := eq_true q14
        have p20 : 0 ≤ (x3_2 : Int) := zX zq2
        have q20 : x3_2 < (a0.size : Int) := zX zq2
        have hx20 := bt_at a0 x3_2
        replace p20 := eq_true p20
        replace q20 := eq_true q20
        go_wp2
        go_roundg k2
        case measure => have := HJ1.out; have := HK2.out; omega
        case rel => exact ⟨(wrap64 (x3_2 + 1)), zq4, H', ⟨by have := HJ1.out; have := HK2.out; omega⟩, by repeat (first | exact Drawn0.refl _ | apply Drawn0.step)⟩
       rw [if_neg c13] at H
       exact absurd H zq16
      rw [if_neg c12] at H
      exact absurd H zq16
     rw [if_neg c11] at H
     have c11b0 : decide (x3_2 < 5) = false := decide_eq_false c11
     clear c11
     obtain rfl := Option.some.inj H
     go_wp2
     go_ret
     exact ⟨zq4, zq6⟩
def spec_l6Is.f (k : Nat) (a0 : ByteArray) (a1 : Int) : Option (Bool) := (spec_IsId.f k a0).bind fun t139 => (if t139 = true then (if 0 ≤ 1 then (if 1 ≤ (a0.size : Int) then ((spec_l5Letter.f a1).bind fun t140 => (some ((a0.extract 0 1).toList == t140.toList))) else (none)) else (none)) else (some false))
set_option maxHeartbeats 8000000 in
set_option maxRecDepth 100000 in
theorem spec_l6Is.calls (k : Nat) (a0 : ByteArray) (a1 : Int) (r : Bool) (w : World) (h : spec_l6Is.f k a0 a1 = some r) :
  Calls Tryz.prog 82 #[.string a0, .int .i64 a1] w fun e w' => e = .returned (.bool r) ∧ Drawn0 w w' := by
 have H : ((spec_IsId.f k a0).bind fun t139 => (if t139 = true then (if 0 ≤ 1 then (if 1 ≤ (a0.size : Int) then ((spec_l5Letter.f a1).bind fun t140 => (some ((a0.extract 0 1).toList == t140.toList))) else (none)) else (none)) else (some false))) = some r := h
 clear h
 replace H := Option.bind_eq_some_iff.mp H
 obtain ⟨t139, A30, H⟩ := H
 replace H : (if t139 = true then (if 0 ≤ 1 then (if 1 ≤ (a0.size : Int) then ((spec_l5Letter.f a1).bind fun t140 => (some ((a0.extract 0 1).toList == t140.toList))) else (none)) else (none)) else (some false)) = some r := H
 have A3 := zK A30
 clear A30
 by_cases c4 : t139 = true
 ·
  subst c4
  have H1 : (if 0 ≤ 1 then (if 1 ≤ (a0.size : Int) then ((spec_l5Letter.f a1).bind fun t140 => (some ((a0.extract 0 1).toList == t140.toList))) else (none)) else (none)) = some r := by rw [if_pos rfl] at H; exact H
  clear H
  have H := H1
  clear H1
  by_cases c5 : 0 ≤ 1
  ·
   rw [if_pos c5] at H
   have c5b0 := eq_true c5
   have c5b1 : decide (0 ≤ 1) = true := decide_eq_true c5
   clear c5
   by_cases c6 : 1 ≤ (a0.size : Int)
   ·
    rw [if_pos c6] at H
    have c6b0 := eq_true c6
    have c6b1 : decide (1 ≤ (a0.size : Int)) = true := decide_eq_true c6
    clear c6
    replace H := Option.bind_eq_some_iff.mp H
    obtain ⟨t140, A70, H⟩ := H
    replace H : (some ((a0.extract 0 1).toList == t140.toList)) = some r := H
    have A7 := zK A70
    clear A70
    obtain rfl := Option.some.inj H
    go_enter Tryz.func82, Tryz.ntmps82
    go_wp2_with (first | (go_at_call 132; (with_reducible refine (spec_IsId.calls k a0 true _ A3.out).mono ?_); rintro e w' ⟨rfl, ⟨nd, rfl⟩⟩; (try first | exact ⟨rfl, _, World.drewN_drewN _ _ _⟩ | exact ⟨rfl, _, Eq.trans (World.drewN_drewN _ _ _) (congrArg (World.drewN _) (Nat.add_assoc _ _ _))⟩)) | (go_at_call 133; (with_reducible refine (spec_l5Letter.calls a1 t140 _ A7.out).mono ?_); rintro e w' ⟨rfl, ⟨nd, rfl⟩⟩; (try first | exact ⟨rfl, _, World.drewN_drewN _ _ _⟩ | exact ⟨rfl, _, Eq.trans (World.drewN_drewN _ _ _) (congrArg (World.drewN _) (Nat.add_assoc _ _ _))⟩)))
    repeat (go_quiet (first | (go_at_call 132; (with_reducible refine (spec_IsId.calls k a0 true _ A3.out).mono ?_); rintro e w' ⟨rfl, ⟨nd, rfl⟩⟩; (try first | exact ⟨rfl, _, World.drewN_drewN _ _ _⟩ | exact ⟨rfl, _, Eq.trans (World.drewN_drewN _ _ _) (congrArg (World.drewN _) (Nat.add_assoc _ _ _))⟩)) | (go_at_call 133; (with_reducible refine (spec_l5Letter.calls a1 t140 _ A7.out).mono ?_); rintro e w' ⟨rfl, ⟨nd, rfl⟩⟩; (try first | exact ⟨rfl, _, World.drewN_drewN _ _ _⟩ | exact ⟨rfl, _, Eq.trans (World.drewN_drewN _ _ _) (congrArg (World.drewN _) (Nat.add_assoc _ _ _))⟩))); try go_wp2_with (first | (go_at_call 132; (with_reducible refine (spec_IsId.calls k a0 true _ A3.out).mono ?_); rintro e w' ⟨rfl, ⟨nd, rfl⟩⟩; (try first | exact ⟨rfl, _, World.drewN_drewN _ _ _⟩ | exact ⟨rfl, _, Eq.trans (World.drewN_drewN _ _ _) (congrArg (World.drewN _) (Nat.add_assoc _ _ _))⟩)) | (go_at_call 133; (with_reducible refine (spec_l5Letter.calls a1 t140 _ A7.out).mono ?_); rintro e w' ⟨rfl, ⟨nd, rfl⟩⟩; (try first | exact ⟨rfl, _, World.drewN_drewN _ _ _⟩ | exact ⟨rfl, _, Eq.trans (World.drewN_drewN _ _ _) (congrArg (World.drewN _) (Nat.add_assoc _ _ _))⟩))))
    go_ret
    exact ⟨zq4, zq6⟩
   rw [if_neg c6] at H
   exact absurd H zq16
  rw [if_neg c5] at H
  exact absurd H zq16
 replace c4 := Bool.eq_false_iff.mpr c4
 subst c4
 have H1 : (some false) = some r := by rw [if_neg (show ¬ (false = true) by decide)] at H; exact H
 clear H
 have H := H1
 clear H1
 obtain rfl := Option.some.inj H
 go_enter Tryz.func82, Tryz.ntmps82
 go_wp2_with (first | (go_at_call 132; (with_reducible refine (spec_IsId.calls k a0 false _ A3.out).mono ?_); rintro e w' ⟨rfl, ⟨nd, rfl⟩⟩; (try first | exact ⟨rfl, _, World.drewN_drewN _ _ _⟩ | exact ⟨rfl, _, Eq.trans (World.drewN_drewN _ _ _) (congrArg (World.drewN _) (Nat.add_assoc _ _ _))⟩)))
 repeat (go_quiet (first | (go_at_call 132; (with_reducible refine (spec_IsId.calls k a0 false _ A3.out).mono ?_); rintro e w' ⟨rfl, ⟨nd, rfl⟩⟩; (try first | exact ⟨rfl, _, World.drewN_drewN _ _ _⟩ | exact ⟨rfl, _, Eq.trans (World.drewN_drewN _ _ _) (congrArg (World.drewN _) (Nat.add_assoc _ _ _))⟩))); try go_wp2_with (first | (go_at_call 132; (with_reducible refine (spec_IsId.calls k a0 false _ A3.out).mono ?_); rintro e w' ⟨rfl, ⟨nd, rfl⟩⟩; (try first | exact ⟨rfl, _, World.drewN_drewN _ _ _⟩ | exact ⟨rfl, _, Eq.trans (World.drewN_drewN _ _ _) (congrArg (World.drewN _) (Nat.add_assoc _ _ _))⟩))))
 go_ret
 exact ⟨zq4, zq6⟩
mutual
def impl_NameFault.j0 : Nat → ByteArray → Bool → Option (Int)
 | 0, _, _ => none
 | k + 1, x0, x20 => if x20 = true then (some 1) else (impl_NameFault.l0 k x0 (x0.size : Int) 0)
def impl_NameFault.l0 : Nat → ByteArray → Int → Int → Option (Int)
 | 0, _, _, _ => none
 | k + 1, x0, x22, x23 => if x23 < x22 then (if 0 ≤ x23 then (if x23 < (x0.size : Int) then (if (bt x0 x23) ≥ 97 then (if (bt x0 x23) ≤ 122 then (impl_NameFault.l0 k x0 x22 (wrap64 (x23 + 1))) else (if (bt x0 x23) ≥ 48 then (if (bt x0 x23) ≤ 57 then (impl_NameFault.l0 k x0 x22 (wrap64 (x23 + 1))) else (if (bt x0 x23) = 46 then (impl_NameFault.l0 k x0 x22 (wrap64 (x23 + 1))) else (if (bt x0 x23) = 95 then (impl_NameFault.l0 k x0 x22 (wrap64 (x23 + 1))) else (if ((bt x0 x23) = 45) then (impl_NameFault.l0 k x0 x22 (wrap64 (x23 + 1))) else (some 1))))) else (if (bt x0 x23) = 46 then (impl_NameFault.l0 k x0 x22 (wrap64 (x23 + 1))) else (if (bt x0 x23) = 95 then (impl_NameFault.l0 k x0 x22 (wrap64 (x23 + 1))) else (if ((bt x0 x23) = 45) then (impl_NameFault.l0 k x0 x22 (wrap64 (x23 + 1))) else (some 1)))))) else (if (bt x0 x23) ≥ 48 then (if (bt x0 x23) ≤ 57 then (impl_NameFault.l0 k x0 x22 (wrap64 (x23 + 1))) else (if (bt x0 x23) = 46 then (impl_NameFault.l0 k x0 x22 (wrap64 (x23 + 1))) else (if (bt x0 x23) = 95 then (impl_NameFault.l0 k x0 x22 (wrap64 (x23 + 1))) else (if ((bt x0 x23) = 45) then (impl_NameFault.l0 k x0 x22 (wrap64 (x23 + 1))) else (some 1))))) else (if (bt x0 x23) = 46 then (impl_NameFault.l0 k x0 x22 (wrap64 (x23 + 1))) else (if (bt x0 x23) = 95 then (impl_NameFault.l0 k x0 x22 (wrap64 (x23 + 1))) else (if ((bt x0 x23) = 45) then (impl_NameFault.l0 k x0 x22 (wrap64 (x23 + 1))) else (some 1)))))) else (none)) else (none)) else (some 0)
end
def impl_NameFault.f (k : Nat) (a0 : ByteArray) : Option (Int) := if (a0.size : Int) < 1 then (impl_NameFault.j0 k a0 true) else (if (a0.size : Int) > 12 then (impl_NameFault.j0 k a0 true) else (if a0.toList = ([46] : List UInt8) then (impl_NameFault.j0 k a0 true) else (impl_NameFault.j0 k a0 (a0.toList == ([46, 46] : List UInt8)))))
set_option maxHeartbeats 8000000 in
set_option maxRecDepth 100000 in
theorem impl_NameFault.calls (k : Nat) (a0 : ByteArray) (r : Int) (w : World) (h : impl_NameFault.f k a0 = some r) :
  Calls Tryz.prog 140 #[.string a0] w fun e w' => e = .returned (.int .i64 r) ∧ Drawn0 w w' := by
 have H : (if (a0.size : Int) < 1 then (impl_NameFault.j0 k a0 true) else (if (a0.size : Int) > 12 then (impl_NameFault.j0 k a0 true) else (if a0.toList = ([46] : List UInt8) then (impl_NameFault.j0 k a0 true) else (impl_NameFault.j0 k a0 (a0.toList == ([46, 46] : List UInt8)))))) = some r := h
 clear h
 have HC2 := zK H
 clear H
 go_enter Tryz.func140, Tryz.ntmps140
 go_upto_region 1 with (fail)
 go_cut [20] (fun v20 wc => ∃ (kq : Nat) (x20_1 : Bool), v20 = .bool x20_1 ∧ Aside0 (impl_NameFault.j0 kq a0 x20_1 = some r) ∧ Aside0 (kq ≤ k) ∧ Drawn0 w wc)
 case first =>
  have H := HC2.out
  clear HC2
  by_cases c3 : (a0.size : Int) < 1
  ·
   rw [if_pos c3] at H
   have c3b0 : decide ((a0.size : Int) < 1) = true := decide_eq_true c3
   have c3b1 : decide (a0.size < 1) = true := decide_eq_true zq7
   clear c3
   (first | rw [c3b0] | (simp only [i64_w, i32_w]; rw [c3b0]) | skip)
   have H' := zK H
   clear H
   go_wp2
   go_meet
   case rel => exact ⟨_, (true), zq4, H', ⟨by first | omega | exact Nat.le_refl _⟩, by repeat (first | exact Drawn0.refl _ | apply Drawn0.step)⟩
  rw [if_neg c3] at H
  have c3b0 : decide ((a0.size : Int) < 1) = false := decide_eq_false c3
  have c3b1 : decide (a0.size < 1) = false := decide_eq_false zq7
  clear c3
  (first | rw [c3b0] | (simp only [i64_w, i32_w]; rw [c3b0]) | skip)
  by_cases c4 : (a0.size : Int) > 12
  ·
   rw [if_pos c4] at H
   have c4b0 : decide (12 < (a0.size : Int)) = true := decide_eq_true c4
   have c4b1 : decide (12 < a0.size) = true := decide_eq_true zq7
   clear c4
   have H' := zK H
   clear H
   go_wp2
   go_meet
   case rel => exact ⟨_, (true), zq4, H', ⟨by first | omega | exact Nat.le_refl _⟩, by repeat (first | exact Drawn0.refl _ | apply Drawn0.step)⟩
  rw [if_neg c4] at H
  have c4b0 : decide (12 < (a0.size : Int)) = false := decide_eq_false c4
  have c4b1 : decide (12 < a0.size) = false := decide_eq_false zq7
  clear c4
  by_cases c5 : a0.toList = ([46] : List UInt8)
  ·
   rw [if_pos c5] at H
   have c5b0 : (a0.toList == ([46] : List UInt8)) = true := beq_iff_eq.mpr c5
   have c5b1 : (a0.toList != ([46] : List UInt8)) = false := bne_eq_false_iff_eq.mpr c5
   clear c5
   have H' := zK H
   clear H
   go_wp2
   go_meet
   case rel => exact ⟨_, (true), zq4, H', ⟨by first | omega | exact Nat.le_refl _⟩, by repeat (first | exact Drawn0.refl _ | apply Drawn0.step)⟩
  rw [if_neg c5] at H
  have c5b0 : (a0.toList == ([46] : List UInt8)) = false := beq_eq_false_iff_ne.mpr c5
  have c5b1 : (a0.toList != ([46] : List UInt8)) = true := bne_iff_ne.mpr c5
  have H' := zK H
  clear H
  go_wp2
  go_meet
  case rel => exact ⟨_, ((a0.toList == ([46, 46] : List UInt8))), zq4, H', ⟨by first | omega | exact Nat.le_refl _⟩, by repeat (first | exact Drawn0.refl _ | apply Drawn0.step)⟩
 case rest =>
  clear HC2
  try clear c1
  try clear p2
  try clear c3
  try clear c3b0
  try clear c3b1
  try clear c4
  try clear c4b0
  try clear c4b1
  try clear c5
  try clear c5b0
  try clear c5b1
  obtain ⟨kq, x20_1, rfl, HA, HJ1, ⟨mc1, rfl⟩⟩ := hcut
  cases kq with
  | zero => exact absurd HA.out (by simp [impl_NameFault.j0])
  | succ kj1 =>
   have H := HA.out
   clear HA
   simp only [impl_NameFault.j0] at H
   by_cases c6 : x20_1 = true
   ·
    subst c6
    have H1 : (some 1) = some r := by rw [if_pos rfl] at H; exact H
    clear H
    have H := H1
    clear H1
    obtain rfl := Option.some.inj H
    go_wp2
    go_ret
    exact ⟨zq4, zq6⟩
   replace c6 := Bool.eq_false_iff.mpr c6
   subst c6
   have H1 : (impl_NameFault.l0 kj1 a0 (a0.size : Int) 0) = some r := by rw [if_neg (show ¬ (false = true) by decide)] at H; exact H
   clear H
   have H := H1
   clear H1
   have H' := zK H
   clear H
   go_wp2
   go_loopg [23] kj1 (fun kq v23 w' => ∃ (x23_2 : Int), v23 = .int .i64 x23_2 ∧ Aside0 (impl_NameFault.l0 kq a0 (a0.size : Int) x23_2 = some r) ∧ Aside0 (kq ≤ kj1) ∧ Drawn0 w w')
   case atStart => exact ⟨(0), zq4, H', ⟨Nat.le_refl _⟩, by repeat (first | exact Drawn0.refl _ | apply Drawn0.step)⟩
   case round =>
    clear H'
    try clear c1
    try clear p2
    try clear c3
    try clear c3b0
    try clear c3b1
    try clear c4
    try clear c4b0
    try clear c4b1
    try clear c5
    try clear c5b0
    try clear c5b1
    try clear c6
    try clear p2
    obtain ⟨x23_2, rfl, HA, HK2, ⟨m2, rfl⟩⟩ := hrel
    cases gk with
    | zero => exact absurd HA.out (by simp [impl_NameFault.l0])
    | succ k2 =>
     have H := HA.out
     clear HA
     simp only [impl_NameFault.l0] at H
     by_cases c7 : x23_2 < (a0.size : Int)
     ·
      rw [if_pos c7] at H
      have c7b0 : decide (x23_2 < (a0.size : Int)) = true := decide_eq_true c7
      clear c7
      by_cases c8 : 0 ≤ x23_2
      ·
       rw [if_pos c8] at H
       have c8b0 : decide (0 ≤ x23_2) = true := decide_eq_true c8
       clear c8
       by_cases c9 : x23_2 < (a0.size : Int)
       ·
        rw [if_pos c9] at H
        have c9b0 : decide (x23_2 < (a0.size : Int)) = true := decide_eq_true c9
        clear c9
        by_cases c11 : (bt a0 x23_2) ≥ 97
        ·
         rw [if_pos c11] at H
         have c11b0 : decide (97 ≤ (bt a0 x23_2)) = true := decide_eq_true c11
         clear c11
         by_cases c12 : (bt a0 x23_2) ≤ 122
         ·
          rw [if_pos c12] at H
          have c12b0 : decide ((bt a0 x23_2) ≤ 122) = true := decide_eq_true c12
          clear c12
          have H' := zK H
          clear H
          have p10 : 0 ≤ (x23_2 : Int) := zX zq2
          have q10 : x23_2 < (a0.size : Int) := zX zq2
          have hx10 := bt_at a0 x23_2
          replace p10 := eq_true p10
          replace q10 := eq_true q10
          go_wp2
          go_roundg k2
          case measure => have := HJ1.out; have := HK2.out; omega
          case rel => exact ⟨(wrap64 (x23_2 + 1)), zq4, H', ⟨by have := HJ1.out; have := HK2.out; omega⟩, by repeat (first | exact Drawn0.refl _ | apply Drawn0.step)⟩
         rw [if_neg c12] at H
         have c12b0 : decide ((bt a0 x23_2) ≤ 122) = false := decide_eq_false c12
         clear c12
         by_cases c13 : (bt a0 x23_2) ≥ 48
         ·
          rw [if_pos c13] at H
          have c13b0 : decide (48 ≤ (bt a0 x23_2)) = true := decide_eq_true c13
          clear c13
          by_cases c14 : (bt a0 x23_2) ≤ 57
          ·
           rw [if_pos c14] at H
           have c14b0 : decide ((bt a0 x23_2) ≤ 57) = true := decide_eq_true c14
           clear c14
           have H' := zK H
           clear H
           have p10 : 0 ≤ (x23_2 : Int) := zX zq2
           have q10 : x23_2 < (a0.size : Int) := zX zq2
           have hx10 := bt_at a0 x23_2
           replace p10 := eq_true p10
           replace q10 := eq_true q10
           go_wp2
           go_roundg k2
           case measure => have := HJ1.out; have := HK2.out; omega
           case rel => exact ⟨(wrap64 (x23_2 + 1)), zq4, H', ⟨by have := HJ1.out; have := HK2.out; omega⟩, by repeat (first | exact Drawn0.refl _ | apply Drawn0.step)⟩
          rw [if_neg c14] at H
          have c14b0 : decide ((bt a0 x23_2) ≤ 57) = false := decide_eq_false c14
          clear c14
          by_cases c15 : (bt a0 x23_2) = 46
          ·
           rw [if_pos c15] at H
           have c15b0 : ((bt a0 x23_2) == 46) = true := beq_iff_eq.mpr c15
           have c15b1 : ((bt a0 x23_2) != 46) = false := bne_eq_false_iff_eq.mpr c15
           clear c15
           have H' := zK H
           clear H
           have p10 : 0 ≤ (x23_2 : Int) := zX zq2
           have q10 : x23_2 < (a0.size : Int) := zX zq2
           have hx10 := bt_at a0 x23_2
           replace p10 := eq_true p10
           replace q10 := eq_true q10
           go_wp2
           go_roundg k2
           case measure => have := HJ1.out; have := HK2.out; omega
           case rel => exact ⟨(wrap64 (x23_2 + 1)), zq4, H', ⟨by have := HJ1.out; have := HK2.out; omega⟩, by repeat (first | exact Drawn0.refl _ | apply Drawn0.step)⟩
          rw [if_neg c15] at H
          have c15b0 : ((bt a0 x23_2) == 46) = false := beq_eq_false_iff_ne.mpr c15
          have c15b1 : ((bt a0 x23_2) != 46) = true := bne_iff_ne.mpr c15
          by_cases c16 : (bt a0 x23_2) = 95
          ·
           rw [if_pos c16] at H
           have c16b0 : ((bt a0 x23_2) == 95) = true := beq_iff_eq.mpr c16
           have c16b1 : ((bt a0 x23_2) != 95) = false := bne_eq_false_iff_eq.mpr c16
           clear c16
           have H' := zK H
           clear H
           have p10 : 0 ≤ (x23_2 : Int) := zX zq2
           have q10 : x23_2 < (a0.size : Int) := zX zq2
           have hx10 := bt_at a0 x23_2
           replace p10 := eq_true p10
           replace q10 := eq_true q10
           go_wp2
           go_roundg k2
           case measure => have := HJ1.out; have := HK2.out; omega
           case rel => exact ⟨(wrap64 (x23_2 + 1)), zq4, H', ⟨by have := HJ1.out; have := HK2.out; omega⟩, by repeat (first | exact Drawn0.refl _ | apply Drawn0.step)⟩
          rw [if_neg c16] at H
          have c16b0 : ((bt a0 x23_2) == 95) = false := beq_eq_false_iff_ne.mpr c16
          have c16b1 : ((bt a0 x23_2) != 95) = true := bne_iff_ne.mpr c16
          by_cases c17 : ((bt a0 x23_2) = 45)
          ·
           rw [if_pos c17] at H
           have c17b0 : ((bt a0 x23_2) == 45) = true := beq_iff_eq.mpr c17
           have c17b1 : ((bt a0 x23_2) != 45) = false := bne_eq_false_iff_eq.mpr c17
           clear c17
           have H' := zK H
           clear H
           have p10 : 0 ≤ (x23_2 : Int) := zX zq2
           have q10 : x23_2 < (a0.size : Int) := zX zq2
           have hx10 := bt_at a0 x23_2
           replace p10 := eq_true p10
           replace q10 := eq_true q10
           go_wp2
           go_roundg k2
           case measure => have := HJ1.out; have := HK2.out; omega
           case rel => exact ⟨(wrap64 (x23_2 + 1)), zq4, H', ⟨by have := HJ1.out; have := HK2.out; omega⟩, by repeat (first | exact Drawn0.refl _ | apply Drawn0.step)⟩
          rw [if_neg c17] at H
          have c17b0 : ((bt a0 x23_2) == 45) = false := beq_eq_false_iff_ne.mpr c17
          have c17b1 : ((bt a0 x23_2) != 45) = true := bne_iff_ne.mpr c17
          obtain rfl := Option.some.inj H
          have p10 : 0 ≤ (x23_2 : Int) := zX zq2
          have q10 : x23_2 < (a0.size : Int) := zX zq2
          have hx10 := bt_at a0 x23_2
          replace p10 := eq_true p10
          replace q10 := eq_true q10
          go_wp2
          go_ret
          exact ⟨zq4, zq6⟩
         rw [if_neg c13] at H
         have c13b0 : decide (48 ≤ (bt a0 x23_2)) = false := decide_eq_false c13
         clear c13
         by_cases c18 : (bt a0 x23_2) = 46
         ·
          rw [if_pos c18] at H
          have c18b0 : ((bt a0 x23_2) == 46) = true := beq_iff_eq.mpr c18
          have c18b1 : ((bt a0 x23_2) != 46) = false := bne_eq_false_iff_eq.mpr c18
          clear c18
          have H' := zK H
          clear H
          have p10 : 0 ≤ (x23_2 : Int) := zX zq2
          have q10 : x23_2 < (a0.size : Int) := zX zq2
          have hx10 := bt_at a0 x23_2
          replace p10 := eq_true p10
          replace q10 := eq_true q10
          go_wp2
          go_roundg k2
          case measure => have := HJ1.out; have := HK2.out; omega
          case rel => exact ⟨(wrap64 (x23_2 + 1)), zq4, H', ⟨by have := HJ1.out; have := HK2.out; omega⟩, by repeat (first | exact Drawn0.refl _ | apply Drawn0.step)⟩
         rw [if_neg c18] at H
         have c18b0 : ((bt a0 x23_2) == 46) = false := beq_eq_false_iff_ne.mpr c18
         have c18b1 : ((bt a0 x23_2) != 46) = true := bne_iff_ne.mpr c18
         by_cases c19 : (bt a0 x23_2) = 95
         ·
          rw [if_pos c19] at H
          have c19b0 : ((bt a0 x23_2) == 95) = true := beq_iff_eq.mpr c19
          have c19b1 : ((bt a0 x23_2) != 95) = false := bne_eq_false_iff_eq.mpr c19
          clear c19
          have H' := zK H
          clear H
          have p10 : 0 ≤ (x23_2 : Int) := zX zq2
          have q10 : x23_2 < (a0.size : Int) := zX zq2
          have hx10 := bt_at a0 x23_2
          replace p10 := eq_true p10
          replace q10 := eq_true q10
          go_wp2
          go_roundg k2
          case measure => have := HJ1.out; have := HK2.out; omega
          case rel => exact ⟨(wrap64 (x23_2 + 1)), zq4, H', ⟨by have := HJ1.out; have := HK2.out; omega⟩, by repeat (first | exact Drawn0.refl _ | apply Drawn0.step)⟩
         rw [if_neg c19] at H
         have c19b0 : ((bt a0 x23_2) == 95) = false := beq_eq_false_iff_ne.mpr c19
         have c19b1 : ((bt a0 x23_2) != 95) = true := bne_iff_ne.mpr c19
         by_cases c20 : ((bt a0 x23_2) = 45)
         ·
          rw [if_pos c20] at H
          have c20b0 : ((bt a0 x23_2) == 45) = true := beq_iff_eq.mpr c20
          have c20b1 : ((bt a0 x23_2) != 45) = false := bne_eq_false_iff_eq.mpr c20
          clear c20
          have H' := zK H
          clear H
          have p10 : 0 ≤ (x23_2 : Int) := zX zq2
          have q10 : x23_2 < (a0.size : Int) := zX zq2
          have hx10 := bt_at a0 x23_2
          replace p10 := eq_true p10
          replace q10 := eq_true q10
          go_wp2
          go_roundg k2
          case measure => have := HJ1.out; have := HK2.out; omega
          case rel => exact ⟨(wrap64 (x23_2 + 1)), zq4, H', ⟨by have := HJ1.out; have := HK2.out; omega⟩, by repeat (first | exact Drawn0.refl _ | apply Drawn0.step)⟩
         rw [if_neg c20] at H
         have c20b0 : ((bt a0 x23_2) == 45) = false := beq_eq_false_iff_ne.mpr c20
         have c20b1 : ((bt a0 x23_2) != 45) = true := bne_iff_ne.mpr c20
         obtain rfl := Option.some.inj H
         have p10 : 0 ≤ (x23_2 : Int) := zX zq2
         have q10 : x23_2 < (a0.size : Int) := zX zq2
         have hx10 := bt_at a0 x23_2
         replace p10 := eq_true p10
         replace q10 := eq_true q10
         go_wp2
         go_ret
         exact ⟨zq4, zq6⟩
        rw [if_neg c11] at H
        have c11b0 : decide (97 ≤ (bt a0 x23_2)) = false := decide_eq_false c11
        clear c11
        by_cases c21 : (bt a0 x23_2) ≥ 48
        ·
         rw [if_pos c21] at H
         have c21b0 : decide (48 ≤ (bt a0 x23_2)) = true := decide_eq_true c21
         clear c21
         by_cases c22 : (bt a0 x23_2) ≤ 57
         ·
          rw [if_pos c22] at H
          have c22b0 : decide ((bt a0 x23_2) ≤ 57) = true := decide_eq_true c22
          clear c22
          have H' := zK H
          clear H
          have p10 : 0 ≤ (x23_2 : Int) := zX zq2
          have q10 : x23_2 < (a0.size : Int) := zX zq2
          have hx10 := bt_at a0 x23_2
          replace p10 := eq_true p10
          replace q10 := eq_true q10
          go_wp2
          go_roundg k2
          case measure => have := HJ1.out; have := HK2.out; omega
          case rel => exact ⟨(wrap64 (x23_2 + 1)), zq4, H', ⟨by have := HJ1.out; have := HK2.out; omega⟩, by repeat (first | exact Drawn0.refl _ | apply Drawn0.step)⟩
         rw [if_neg c22] at H
         have c22b0 : decide ((bt a0 x23_2) ≤ 57) = false := decide_eq_false c22
         clear c22
         by_cases c23 : (bt a0 x23_2) = 46
         ·
          rw [if_pos c23] at H
          have c23b0 : ((bt a0 x23_2) == 46) = true := beq_iff_eq.mpr c23
          have c23b1 : ((bt a0 x23_2) != 46) = false := bne_eq_false_iff_eq.mpr c23
          clear c23
          have H' := zK H
          clear H
          have p10 : 0 ≤ (x23_2 : Int) := zX zq2
          have q10 : x23_2 < (a0.size : Int) := zX zq2
          have hx10 := bt_at a0 x23_2
          replace p10 := eq_true p10
          replace q10 := eq_true q10
          go_wp2
          go_roundg k2
          case measure => have := HJ1.out; have := HK2.out; omega
          case rel => exact ⟨(wrap64 (x23_2 + 1)), zq4, H', ⟨by have := HJ1.out; have := HK2.out; omega⟩, by repeat (first | exact Drawn0.refl _ | apply Drawn0.step)⟩
         rw [if_neg c23] at H
         have c23b0 : ((bt a0 x23_2) == 46) = false := beq_eq_false_iff_ne.mpr c23
         have c23b1 : ((bt a0 x23_2) != 46) = true := bne_iff_ne.mpr c23
         by_cases c24 : (bt a0 x23_2) = 95
         ·
          rw [if_pos c24] at H
          have c24b0 : ((bt a0 x23_2) == 95) = true := beq_iff_eq.mpr c24
          have c24b1 : ((bt a0 x23_2) != 95) = false := bne_eq_false_iff_eq.mpr c24
          clear c24
          have H' := zK H
          clear H
          have p10 : 0 ≤ (x23_2 : Int) := zX zq2
          have q10 : x23_2 < (a0.size : Int) := zX zq2
          have hx10 := bt_at a0 x23_2
          replace p10 := eq_true p10
          replace q10 := eq_true q10
          go_wp2
          go_roundg k2
          case measure => have := HJ1.out; have := HK2.out; omega
          case rel => exact ⟨(wrap64 (x23_2 + 1)), zq4, H', ⟨by have := HJ1.out; have := HK2.out; omega⟩, by repeat (first | exact Drawn0.refl _ | apply Drawn0.step)⟩
         rw [if_neg c24] at H
         have c24b0 : ((bt a0 x23_2) == 95) = false := beq_eq_false_iff_ne.mpr c24
         have c24b1 : ((bt a0 x23_2) != 95) = true := bne_iff_ne.mpr c24
         by_cases c25 : ((bt a0 x23_2) = 45)
         ·
          rw [if_pos c25] at H
          have c25b0 : ((bt a0 x23_2) == 45) = true := beq_iff_eq.mpr c25
          have c25b1 : ((bt a0 x23_2) != 45) = false := bne_eq_false_iff_eq.mpr c25
          clear c25
          have H' := zK H
          clear H
          have p10 : 0 ≤ (x23_2 : Int) := zX zq2
          have q10 : x23_2 < (a0.size : Int) := zX zq2
          have hx10 := bt_at a0 x23_2
          replace p10 := eq_true p10
          replace q10 := eq_true q10
          go_wp2
          go_roundg k2
          case measure => have := HJ1.out; have := HK2.out; omega
          case rel => exact ⟨(wrap64 (x23_2 + 1)), zq4, H', ⟨by have := HJ1.out; have := HK2.out; omega⟩, by repeat (first | exact Drawn0.refl _ | apply Drawn0.step)⟩
         rw [if_neg c25] at H
         have c25b0 : ((bt a0 x23_2) == 45) = false := beq_eq_false_iff_ne.mpr c25
         have c25b1 : ((bt a0 x23_2) != 45) = true := bne_iff_ne.mpr c25
         obtain rfl := Option.some.inj H
         have p10 : 0 ≤ (x23_2 : Int) := zX zq2
         have q10 : x23_2 < (a0.size : Int) := zX zq2
         have hx10 := bt_at a0 x23_2
         replace p10 := eq_true p10
         replace q10 := eq_true q10
         go_wp2
         go_ret
         exact ⟨zq4, zq6⟩
        rw [if_neg c21] at H
        have c21b0 : decide (48 ≤ (bt a0 x23_2)) = false := decide_eq_false c21
        clear c21
        by_cases c26 : (bt a0 x23_2) = 46
        ·
         rw [if_pos c26] at H
         have c26b0 : ((bt a0 x23_2) == 46) = true := beq_iff_eq.mpr c26
         have c26b1 : ((bt a0 x23_2) != 46) = false := bne_eq_false_iff_eq.mpr c26
         clear c26
         have H' := zK H
         clear H
         have p10 : 0 ≤ (x23_2 : Int) := zX zq2
         have q10 : x23_2 < (a0.size : Int) := zX zq2
         have hx10 := bt_at a0 x23_2
         replace p10 := eq_true p10
         replace q10 := eq_true q10
         go_wp2
         go_roundg k2
         case measure => have := HJ1.out; have := HK2.out; omega
         case rel => exact ⟨(wrap64 (x23_2 + 1)), zq4, H', ⟨by have := HJ1.out; have := HK2.out; omega⟩, by repeat (first | exact Drawn0.refl _ | apply Drawn0.step)⟩
        rw [if_neg c26] at H
        have c26b0 : ((bt a0 x23_2) == 46) = false := beq_eq_false_iff_ne.mpr c26
        have c26b1 : ((bt a0 x23_2) != 46) = true := bne_iff_ne.mpr c26
        by_cases c27 : (bt a0 x23_2) = 95
        ·
         rw [if_pos c27] at H
         have c27b0 : ((bt a0 x23_2) == 95) = true := beq_iff_eq.mpr c27
         have c27b1 : ((bt a0 x23_2) != 95) = false := bne_eq_false_iff_eq.mpr c27
         clear c27
         have H' := zK H
         clear H
         have p10 : 0 ≤ (x23_2 : Int) := zX zq2
         have q10 : x23_2 < (a0.size : Int) := zX zq2
         have hx10 := bt_at a0 x23_2
         replace p10 := eq_true p10
         replace q10 := eq_true q10
         go_wp2
         go_roundg k2
         case measure => have := HJ1.out; have := HK2.out; omega
         case rel => exact ⟨(wrap64 (x23_2 + 1)), zq4, H', ⟨by have := HJ1.out; have := HK2.out; omega⟩, by repeat (first | exact Drawn0.refl _ | apply Drawn0.step)⟩
        rw [if_neg c27] at H
        have c27b0 : ((bt a0 x23_2) == 95) = false := beq_eq_false_iff_ne.mpr c27
        have c27b1 : ((bt a0 x23_2) != 95) = true := bne_iff_ne.mpr c27
        by_cases c28 : ((bt a0 x23_2) = 45)
        ·
         rw [if_pos c28] at H
         have c28b0 : ((bt a0 x23_2) == 45) = true := beq_iff_eq.mpr c28
         have c28b1 : ((bt a0 x23_2) != 45) = false := bne_eq_false_iff_eq.mpr c28
         clear c28
         have H' := zK H
         clear H
         have p10 : 0 ≤ (x23_2 : Int) := zX zq2
         have q10 : x23_2 < (a0.size : Int) := zX zq2
         have hx10 := bt_at a0 x23_2
         replace p10 := eq_true p10
         replace q10 := eq_true q10
         go_wp2
         go_roundg k2
         case measure => have := HJ1.out; have := HK2.out; omega
         case rel => exact ⟨(wrap64 (x23_2 + 1)), zq4, H', ⟨by have := HJ1.out; have := HK2.out; omega⟩, by repeat (first | exact Drawn0.refl _ | apply Drawn0.step)⟩
        rw [if_neg c28] at H
        have c28b0 : ((bt a0 x23_2) == 45) = false := beq_eq_false_iff_ne.mpr c28
        have c28b1 : ((bt a0 x23_2) != 45) = true := bne_iff_ne.mpr c28
        obtain rfl := Option.some.inj H
        have p10 : 0 ≤ (x23_2 : Int) := zX zq2
        have q10 : x23_2 < (a0.size : Int) := zX zq2
        have hx10 := bt_at a0 x23_2
        replace p10 := eq_true p10
        replace q10 := eq_true q10
        go_wp2
        go_ret
        exact ⟨zq4, zq6⟩
       rw [if_neg c9] at H
       exact absurd H zq16
      rw [if_neg c8] at H
      exact absurd H zq16
     rw [if_neg c7] at H
     have c7b0 : decide (x23_2 < (a0.size : Int)) = false := decide_eq_false c7
     clear c7
     obtain rfl := Option.some.inj H
     go_wp2
     go_ret
     exact ⟨zq4, zq6⟩
def spec_l6NameByte.f (a0 : Int) : Option (Bool) := if a0 ≥ 97 then (if a0 ≤ 122 then (some true) else (if a0 ≥ 48 then (if a0 ≤ 57 then (some true) else (if a0 = 46 then (some true) else (if a0 = 95 then (some true) else (some (a0 == 45))))) else (if a0 = 46 then (some true) else (if a0 = 95 then (some true) else (some (a0 == 45)))))) else (if a0 ≥ 48 then (if a0 ≤ 57 then (some true) else (if a0 = 46 then (some true) else (if a0 = 95 then (some true) else (some (a0 == 45))))) else (if a0 = 46 then (some true) else (if a0 = 95 then (some true) else (some (a0 == 45)))))
set_option maxHeartbeats 8000000 in
set_option maxRecDepth 100000 in
theorem spec_l6NameByte.calls (a0 : Int) (r : Bool) (w : World) (h : spec_l6NameByte.f a0 = some r) :
  Calls Tryz.prog 190 #[.int .u8 a0] w fun e w' => e = .returned (.bool r) ∧ Drawn0 w w' := by
 have H : (if a0 ≥ 97 then (if a0 ≤ 122 then (some true) else (if a0 ≥ 48 then (if a0 ≤ 57 then (some true) else (if a0 = 46 then (some true) else (if a0 = 95 then (some true) else (some (a0 == 45))))) else (if a0 = 46 then (some true) else (if a0 = 95 then (some true) else (some (a0 == 45)))))) else (if a0 ≥ 48 then (if a0 ≤ 57 then (some true) else (if a0 = 46 then (some true) else (if a0 = 95 then (some true) else (some (a0 == 45))))) else (if a0 = 46 then (some true) else (if a0 = 95 then (some true) else (some (a0 == 45)))))) = some r := h
 clear h
 by_cases c2 : a0 ≥ 97
 ·
  rw [if_pos c2] at H
  have c2b0 : decide (97 ≤ a0) = true := decide_eq_true c2
  clear c2
  by_cases c3 : a0 ≤ 122
  ·
   rw [if_pos c3] at H
   have c3b0 : decide (a0 ≤ 122) = true := decide_eq_true c3
   clear c3
   obtain rfl := Option.some.inj H
   go_enter Tryz.func190, Tryz.ntmps190
   go_wp2
   go_ret
   exact ⟨zq4, zq6⟩
  rw [if_neg c3] at H
  have c3b0 : decide (a0 ≤ 122) = false := decide_eq_false c3
  clear c3
  by_cases c4 : a0 ≥ 48
  ·
   rw [if_pos c4] at H
   have c4b0 : decide (48 ≤ a0) = true := decide_eq_true c4
   clear c4
   by_cases c5 : a0 ≤ 57
   ·
    rw [if_pos c5] at H
    have c5b0 : decide (a0 ≤ 57) = true := decide_eq_true c5
    clear c5
    obtain rfl := Option.some.inj H
    go_enter Tryz.func190, Tryz.ntmps190
    go_wp2
    go_ret
    exact ⟨zq4, zq6⟩
   rw [if_neg c5] at H
   have c5b0 : decide (a0 ≤ 57) = false := decide_eq_false c5
   clear c5
   by_cases c6 : a0 = 46
   ·
    rw [if_pos c6] at H
    have c6b0 : (a0 == 46) = true := beq_iff_eq.mpr c6
    have c6b1 : (a0 != 46) = false := bne_eq_false_iff_eq.mpr c6
    clear c6
    obtain rfl := Option.some.inj H
    go_enter Tryz.func190, Tryz.ntmps190
    go_wp2
    go_ret
    exact ⟨zq4, zq6⟩
   rw [if_neg c6] at H
   have c6b0 : (a0 == 46) = false := beq_eq_false_iff_ne.mpr c6
   have c6b1 : (a0 != 46) = true := bne_iff_ne.mpr c6
   by_cases c7 : a0 = 95
   ·
    rw [if_pos c7] at H
    have c7b0 : (a0 == 95) = true := beq_iff_eq.mpr c7
    have c7b1 : (a0 != 95) = false := bne_eq_false_iff_eq.mpr c7
    clear c7
    obtain rfl := Option.some.inj H
    go_enter Tryz.func190, Tryz.ntmps190
    go_wp2
    go_ret
    exact ⟨zq4, zq6⟩
   rw [if_neg c7] at H
   have c7b0 : (a0 == 95) = false := beq_eq_false_iff_ne.mpr c7
   have c7b1 : (a0 != 95) = true := bne_iff_ne.mpr c7
   obtain rfl := Option.some.inj H
   go_enter Tryz.func190, Tryz.ntmps190
   go_wp2
   go_ret
   exact ⟨zq4, zq6⟩
  rw [if_neg c4] at H
  have c4b0 : decide (48 ≤ a0) = false := decide_eq_false c4
  clear c4
  by_cases c8 : a0 = 46
  ·
   rw [if_pos c8] at H
   have c8b0 : (a0 == 46) = true := beq_iff_eq.mpr c8
   have c8b1 : (a0 != 46) = false := bne_eq_false_iff_eq.mpr c8
   clear c8
   obtain rfl := Option.some.inj H
   go_enter Tryz.func190, Tryz.ntmps190
   go_wp2
   go_ret
   exact ⟨zq4, zq6⟩
  rw [if_neg c8] at H
  have c8b0 : (a0 == 46) = false := beq_eq_false_iff_ne.mpr c8
  have c8b1 : (a0 != 46) = true := bne_iff_ne.mpr c8
  by_cases c9 : a0 = 95
  ·
   rw [if_pos c9] at H
   have c9b0 : (a0 == 95) = true := beq_iff_eq.mpr c9
   have c9b1 : (a0 != 95) = false := bne_eq_false_iff_eq.mpr c9
   clear c9
   obtain rfl := Option.some.inj H
   go_enter Tryz.func190, Tryz.ntmps190
   go_wp2
   go_ret
   exact ⟨zq4, zq6⟩
  rw [if_neg c9] at H
  have c9b0 : (a0 == 95) = false := beq_eq_false_iff_ne.mpr c9
  have c9b1 : (a0 != 95) = true := bne_iff_ne.mpr c9
  obtain rfl := Option.some.inj H
  go_enter Tryz.func190, Tryz.ntmps190
  go_wp2
  go_ret
  exact ⟨zq4, zq6⟩
 rw [if_neg c2] at H
 have c2b0 : decide (97 ≤ a0) = false := decide_eq_false c2
 clear c2
 by_cases c10 : a0 ≥ 48
 ·
  rw [if_pos c10] at H
  have c10b0 : decide (48 ≤ a0) = true := decide_eq_true c10
  clear c10
  by_cases c11 : a0 ≤ 57
  ·
   rw [if_pos c11] at H
   have c11b0 : decide (a0 ≤ 57) = true := decide_eq_true c11
   clear c11
   obtain rfl := Option.some.inj H
   go_enter Tryz.func190, Tryz.ntmps190
   go_wp2
   go_ret
   exact ⟨zq4, zq6⟩
  rw [if_neg c11] at H
  have c11b0 : decide (a0 ≤ 57) = false := decide_eq_false c11
  clear c11
  by_cases c12 : a0 = 46
  ·
   rw [if_pos c12] at H
   have c12b0 : (a0 == 46) = true := beq_iff_eq.mpr c12
   have c12b1 : (a0 != 46) = false := bne_eq_false_iff_eq.mpr c12
   clear c12
   obtain rfl := Option.some.inj H
   go_enter Tryz.func190, Tryz.ntmps190
   go_wp2
   go_ret
   exact ⟨zq4, zq6⟩
  rw [if_neg c12] at H
  have c12b0 : (a0 == 46) = false := beq_eq_false_iff_ne.mpr c12
  have c12b1 : (a0 != 46) = true := bne_iff_ne.mpr c12
  by_cases c13 : a0 = 95
  ·
   rw [if_pos c13] at H
   have c13b0 : (a0 == 95) = true := beq_iff_eq.mpr c13
   have c13b1 : (a0 != 95) = false := bne_eq_false_iff_eq.mpr c13
   clear c13
   obtain rfl := Option.some.inj H
   go_enter Tryz.func190, Tryz.ntmps190
   go_wp2
   go_ret
   exact ⟨zq4, zq6⟩
  rw [if_neg c13] at H
  have c13b0 : (a0 == 95) = false := beq_eq_false_iff_ne.mpr c13
  have c13b1 : (a0 != 95) = true := bne_iff_ne.mpr c13
  obtain rfl := Option.some.inj H
  go_enter Tryz.func190, Tryz.ntmps190
  go_wp2
  go_ret
  exact ⟨zq4, zq6⟩
 rw [if_neg c10] at H
 have c10b0 : decide (48 ≤ a0) = false := decide_eq_false c10
 clear c10
 by_cases c14 : a0 = 46
 ·
  rw [if_pos c14] at H
  have c14b0 : (a0 == 46) = true := beq_iff_eq.mpr c14
  have c14b1 : (a0 != 46) = false := bne_eq_false_iff_eq.mpr c14
  clear c14
  obtain rfl := Option.some.inj H
  go_enter Tryz.func190, Tryz.ntmps190
  go_wp2
  go_ret
  exact ⟨zq4, zq6⟩
 rw [if_neg c14] at H
 have c14b0 : (a0 == 46) = false := beq_eq_false_iff_ne.mpr c14
 have c14b1 : (a0 != 46) = true := bne_iff_ne.mpr c14
 by_cases c15 : a0 = 95
 ·
  rw [if_pos c15] at H
  have c15b0 : (a0 == 95) = true := beq_iff_eq.mpr c15
  have c15b1 : (a0 != 95) = false := bne_eq_false_iff_eq.mpr c15
  clear c15
  obtain rfl := Option.some.inj H
  go_enter Tryz.func190, Tryz.ntmps190
  go_wp2
  go_ret
  exact ⟨zq4, zq6⟩
 rw [if_neg c15] at H
 have c15b0 : (a0 == 95) = false := beq_eq_false_iff_ne.mpr c15
 have c15b1 : (a0 != 95) = true := bne_iff_ne.mpr c15
 obtain rfl := Option.some.inj H
 go_enter Tryz.func190, Tryz.ntmps190
 go_wp2
 go_ret
 exact ⟨zq4, zq6⟩
mutual
def spec_NameFault.j0 : Nat → ByteArray → Bool → Option (Int)
 | 0, _, _ => none
 | k + 1, x0, x19 => if x19 = true then (some 1) else (spec_NameFault.l0 k x0 0)
def spec_NameFault.l0 : Nat → ByteArray → Int → Option (Int)
 | 0, _, _ => none
 | k + 1, x0, x3 => if x3 < (x0.size : Int) then (if 0 ≤ x3 then ((spec_l6NameByte.f (bt x0 x3)).bind fun t148 => (if t148 = true then (spec_NameFault.l0 k x0 (wrap64 (x3 + 1))) else (some 1))) else (none)) else (some 0)
end
def spec_NameFault.f (k : Nat) (a0 : ByteArray) : Option (Int) := if (a0.size : Int) < 1 then (spec_NameFault.j0 k a0 true) else (if (a0.size : Int) > 12 then (spec_NameFault.j0 k a0 true) else (if a0.toList = ([46] : List UInt8) then (spec_NameFault.j0 k a0 true) else (spec_NameFault.j0 k a0 (a0.toList == ([46, 46] : List UInt8)))))
set_option maxHeartbeats 8000000 in
set_option maxRecDepth 100000 in
theorem spec_NameFault.calls (k : Nat) (a0 : ByteArray) (r : Int) (w : World) (h : spec_NameFault.f k a0 = some r) :
  Calls Tryz.prog 131 #[.string a0] w fun e w' => e = .returned (.int .i64 r) ∧ Drawn0 w w' := by
 have H : (if (a0.size : Int) < 1 then (spec_NameFault.j0 k a0 true) else (if (a0.size : Int) > 12 then (spec_NameFault.j0 k a0 true) else (if a0.toList = ([46] : List UInt8) then (spec_NameFault.j0 k a0 true) else (spec_NameFault.j0 k a0 (a0.toList == ([46, 46] : List UInt8)))))) = some r := h
 clear h
 have HC2 := zK H
 clear H
 go_enter Tryz.func131, Tryz.ntmps131
 go_upto_region 1 with (fail)
 go_cut [19] (fun v19 wc => ∃ (kq : Nat) (x19_1 : Bool), v19 = .bool x19_1 ∧ Aside0 (spec_NameFault.j0 kq a0 x19_1 = some r) ∧ Aside0 (kq ≤ k) ∧ Drawn0 w wc)
 case first =>
  have H := HC2.out
  clear HC2
  by_cases c3 : (a0.size : Int) < 1
  ·
   rw [if_pos c3] at H
   have c3b0 : decide ((a0.size : Int) < 1) = true := decide_eq_true c3
   have c3b1 : decide (a0.size < 1) = true := decide_eq_true zq7
   clear c3
   (first | rw [c3b0] | (simp only [i64_w, i32_w]; rw [c3b0]) | skip)
   have H' := zK H
   clear H
   go_wp2
   go_meet
   case rel => exact ⟨_, (true), zq4, H', ⟨by first | omega | exact Nat.le_refl _⟩, by repeat (first | exact Drawn0.refl _ | apply Drawn0.step)⟩
  rw [if_neg c3] at H
  have c3b0 : decide ((a0.size : Int) < 1) = false := decide_eq_false c3
  have c3b1 : decide (a0.size < 1) = false := decide_eq_false zq7
  clear c3
  (first | rw [c3b0] | (simp only [i64_w, i32_w]; rw [c3b0]) | skip)
  by_cases c4 : (a0.size : Int) > 12
  ·
   rw [if_pos c4] at H
   have c4b0 : decide (12 < (a0.size : Int)) = true := decide_eq_true c4
   have c4b1 : decide (12 < a0.size) = true := decide_eq_true zq7
   clear c4
   have H' := zK H
   clear H
   go_wp2
   go_meet
   case rel => exact ⟨_, (true), zq4, H', ⟨by first | omega | exact Nat.le_refl _⟩, by repeat (first | exact Drawn0.refl _ | apply Drawn0.step)⟩
  rw [if_neg c4] at H
  have c4b0 : decide (12 < (a0.size : Int)) = false := decide_eq_false c4
  have c4b1 : decide (12 < a0.size) = false := decide_eq_false zq7
  clear c4
  by_cases c5 : a0.toList = ([46] : List UInt8)
  ·
   rw [if_pos c5] at H
   have c5b0 : (a0.toList == ([46] : List UInt8)) = true := beq_iff_eq.mpr c5
   have c5b1 : (a0.toList != ([46] : List UInt8)) = false := bne_eq_false_iff_eq.mpr c5
   clear c5
   have H' := zK H
   clear H
   go_wp2
   go_meet
   case rel => exact ⟨_, (true), zq4, H', ⟨by first | omega | exact Nat.le_refl _⟩, by repeat (first | exact Drawn0.refl _ | apply Drawn0.step)⟩
  rw [if_neg c5] at H
  have c5b0 : (a0.toList == ([46] : List UInt8)) = false := beq_eq_false_iff_ne.mpr c5
  have c5b1 : (a0.toList != ([46] : List UInt8)) = true := bne_iff_ne.mpr c5
  have H' := zK H
  clear H
  go_wp2
  go_meet
  case rel => exact ⟨_, ((a0.toList == ([46, 46] : List UInt8))), zq4, H', ⟨by first | omega | exact Nat.le_refl _⟩, by repeat (first | exact Drawn0.refl _ | apply Drawn0.step)⟩
 case rest =>
  clear HC2
  try clear c1
  try clear p2
  try clear c3
  try clear c3b0
  try clear c3b1
  try clear c4
  try clear c4b0
  try clear c4b1
  try clear c5
  try clear c5b0
  try clear c5b1
  obtain ⟨kq, x19_1, rfl, HA, HJ1, ⟨mc1, rfl⟩⟩ := hcut
  cases kq with
  | zero => exact absurd HA.out (by simp [spec_NameFault.j0])
  | succ kj1 =>
   have H := HA.out
   clear HA
   simp only [spec_NameFault.j0] at H
   by_cases c6 : x19_1 = true
   ·
    subst c6
    have H1 : (some 1) = some r := by rw [if_pos rfl] at H; exact H
    clear H
    have H := H1
    clear H1
    obtain rfl := Option.some.inj H
    go_wp2
    go_ret
    exact ⟨zq4, zq6⟩
   replace c6 := Bool.eq_false_iff.mpr c6
   subst c6
   have H1 : (spec_NameFault.l0 kj1 a0 0) = some r := by rw [if_neg (show ¬ (false = true) by decide)] at H; exact H
   clear H
   have H := H1
   clear H1
   have H' := zK H
   clear H
   go_wp2
   go_loopg [3] kj1 (fun kq v3 w' => ∃ (x3_2 : Int), v3 = .int .i64 x3_2 ∧ Aside0 (spec_NameFault.l0 kq a0 x3_2 = some r) ∧ Aside0 (kq ≤ kj1) ∧ Drawn0 w w')
   case atStart => exact ⟨(0), zq4, H', ⟨Nat.le_refl _⟩, by repeat (first | exact Drawn0.refl _ | apply Drawn0.step)⟩
   case round =>
    clear H'
    try clear c1
    try clear p2
    try clear c3
    try clear c3b0
    try clear c3b1
    try clear c4
    try clear c4b0
    try clear c4b1
    try clear c5
    try clear c5b0
    try clear c5b1
    try clear c6
    try clear p2
    obtain ⟨x3_2, rfl, HA, HK2, ⟨m2, rfl⟩⟩ := hrel
    cases gk with
    | zero => exact absurd HA.out (by simp [spec_NameFault.l0])
    | succ k2 =>
     have H := HA.out
     clear HA
     simp only [spec_NameFault.l0] at H
     by_cases c7 : x3_2 < (a0.size : Int)
     ·
      rw [if_pos c7] at H
      have c7b0 : decide (x3_2 < (a0.size : Int)) = true := decide_eq_true c7
      clear c7
      by_cases c8 : 0 ≤ x3_2
      ·
       rw [if_pos c8] at H
       have c8b0 : decide (0 ≤ x3_2) = true := decide_eq_true c8
       clear c8
       replace H := Option.bind_eq_some_iff.mp H
       obtain ⟨t148, A100, H⟩ := H
       replace H : (if t148 = true then (spec_NameFault.l0 k2 a0 (wrap64 (x3_2 + 1))) else (some 1)) = some r := H
       have A10 := zK A100
       clear A100
       by_cases c11 : t148 = true
       ·
        subst c11
        have H1 : (spec_NameFault.l0 k2 a0 (wrap64 (x3_2 + 1))) = some r := by rw [if_pos rfl] at H; exact H
        clear H
        have H := H1
        clear H1
        have H' := zK H
        clear H
        have p9 : 0 ≤ (x3_2 : Int) := zX zq2
        have q9 : x3_2 < (a0.size : Int) := zX zq2
        have hx9 := bt_at a0 x3_2
        replace p9 := eq_true p9
        replace q9 := eq_true q9
        go_wp2_with (first | ((with_reducible refine gate_callee (f := 190) rfl ?_); refine goesL_ (some 29) rfl rfl Tryz.func190 zq3 rfl #[.int .u8 (bt a0 x3_2)] rfl zq1 ?_; (with_reducible refine (spec_l6NameByte.calls (bt a0 x3_2) true _ A10.out).mono ?_); rintro e w' ⟨rfl, ⟨nd, rfl⟩⟩; refine ⟨_, rfl, ?_⟩))
        go_roundg k2
        case measure => have := HJ1.out; have := HK2.out; omega
        case rel => exact ⟨(wrap64 (x3_2 + 1)), zq4, H', ⟨by have := HJ1.out; have := HK2.out; omega⟩, by repeat (first | exact Drawn0.refl _ | apply Drawn0.step)⟩
       replace c11 := Bool.eq_false_iff.mpr c11
       subst c11
       have H1 : (some 1) = some r := by rw [if_neg (show ¬ (false = true) by decide)] at H; exact H
       clear H
       have H := H1
       clear H1
       obtain rfl := Option.some.inj H
       have p9 : 0 ≤ (x3_2 : Int) := zX zq2
       have q9 : x3_2 < (a0.size : Int) := zX zq2
       have hx9 := bt_at a0 x3_2
       replace p9 := eq_true p9
       replace q9 := eq_true q9
       go_wp2_with (first | ((with_reducible refine gate_callee (f := 190) rfl ?_); refine goesL_ (some 29) rfl rfl Tryz.func190 zq3 rfl #[.int .u8 (bt a0 x3_2)] rfl zq1 ?_; (with_reducible refine (spec_l6NameByte.calls (bt a0 x3_2) false _ A10.out).mono ?_); rintro e w' ⟨rfl, ⟨nd, rfl⟩⟩; refine ⟨_, rfl, ?_⟩))
       go_ret
       exact ⟨zq4, zq6⟩
      rw [if_neg c8] at H
      exact absurd H zq16
     rw [if_neg c7] at H
     have c7b0 : decide (x3_2 < (a0.size : Int)) = false := decide_eq_false c7
     clear c7
     obtain rfl := Option.some.inj H
     go_wp2
     go_ret
     exact ⟨zq4, zq6⟩
end Go.Proofs.YtkjgnnhpjcofiaaGreatDoor.PX

namespace Go.Proofs.YtkjgnnhpjcofiaaGreatDoorX
open Go Go.RowKit Go.Proofs.YtkjgnnhpjcofiaaGreatDoorW.PrintWords Go.Proofs.YtkjgnnhpjcofiaaGreatDoor.PX
def nameB (b : UInt8) : Bool := decide (97 ≤ b.toNat ∧ b.toNat ≤ 122 ∨ 48 ≤ b.toNat ∧ b.toNat ≤ 57 ∨ b.toNat = 46 ∨ b.toNat = 95 ∨ b.toNat = 45)
def nameM (l : List UInt8) : Bool := decide (1 ≤ l.length) && decide (l.length ≤ 12) && !(l == [46]) && !(l == [46, 46]) && l.all nameB
theorem byte_spec (b : UInt8) : spec_l6NameByte.f (b.toNat : Int) = some (nameB b) := by
 unfold spec_l6NameByte.f nameB
 generalize b.toNat = n
 (repeat' split) <;> first
   | (congr 1; symm; apply decide_eq_true; omega)
   | (congr 1; rw [Bool.eq_iff_iff, beq_iff_eq, decide_eq_true_iff]; omega)
def nameStep (s : ByteArray) (i : Nat) (_ : Unit) : Sum Int Unit := if nameB (s.data.toList.getD i 0) = true then .inr () else .inl 1
theorem run_name (s : ByteArray) : run (nameStep s) (fun _ => (0 : Int)) s.size 0 () = if s.data.toList.all nameB = true then 0 else 1 := by
 have key : ∀ d i, i + d = s.size → run (nameStep s) (fun _ => (0 : Int)) d i () = if (s.data.toList.drop i).all nameB = true then 0 else 1 := by
  intro d
  induction d with
  | zero =>
    intro i hi
    rw [run_zero, List.drop_of_length_le (by rw [← size_list]; omega)]
    rfl
  | succ d ih =>
    intro i hi
    have hlt : i < s.data.toList.length := by rw [← size_list]; omega
    have e : s.data.toList.getD i 0 = s.data.toList[i] := by rw [List.getD_eq_getElem?_getD, List.getElem?_eq_getElem hlt, Option.getD_some]
    rw [List.drop_eq_getElem_cons hlt, List.all_cons, ← e]
    cases h : nameB (s.data.toList.getD i 0) with
    | true => rw [run_on (s' := ()) (by unfold nameStep; rw [h]; rfl), ih (i + 1) zq7, Bool.true_and]
    | false => rw [run_out (r := (1 : Int)) (by unfold nameStep; rw [h]; rfl)]; rfl
 exact key s.size 0 zq7
theorem name_ifs {α : Type} (s : ByteArray) (j : Bool → α) : (if (s.size : Int) < 1 then j true else if (s.size : Int) > 12 then j true else if s.toList = [46] then j true else j (s.toList == [46, 46])) =
 j (!(decide (1 ≤ s.data.toList.length) && decide (s.data.toList.length ≤ 12) && !(s.data.toList == [46]) && !(s.data.toList == [46, 46]))) := by
 rw [toList_eq, ← size_list]
 by_cases h1 : 1 ≤ s.size
 · rw [if_neg zq7]
   by_cases h2 : s.size ≤ 12
   · rw [if_neg zq7]
     by_cases h3 : s.data.toList = [46]
     · rw [if_pos h3]; simp [h3]
     · have h4 : (s.data.toList == [46]) = false := beq_eq_false_iff_ne.2 h3
       rw [if_neg h3, h4, decide_eq_true h1, decide_eq_true h2, Bool.not_false, Bool.and_self, Bool.and_self, Bool.true_and, Bool.not_not]
   · rw [if_pos zq7]; simp [h2]
 · rw [if_pos zq7]; simp [h1]
theorem spec_name (s : ByteArray) (k : Nat) (hk : s.size + 2 < k ∨ 16 < k) : spec_NameFault.f k s = some (if nameM s.data.toList = true then 0 else 1) := by
 unfold spec_NameFault.f
 rw [name_ifs s (spec_NameFault.j0 k s)]
 unfold nameM
 obtain ⟨k, rfl⟩ : ∃ m, k = m + 1 := ⟨k - 1, by omega⟩
 simp only [spec_NameFault.j0]
 cases hx : (decide (1 ≤ s.data.toList.length) && decide (s.data.toList.length ≤ 12) && !(s.data.toList == [46]) && !(s.data.toList == [46, 46])) with
 | false => rfl
 | true =>
   have hl : s.size ≤ 12 := by
    rw [size_list]
    simp only [Bool.and_eq_true, decide_eq_true_eq] at hx
    exact hx.1.1.2
   rw [if_neg zq13, Bool.true_and, ← run_name]
   refine loop0 (F := fun k i (_ : Unit) => spec_NameFault.l0 k s (i : Int)) s.size 0 (fun _ _ => True) (fun _ _ _ _ _ _ => trivial) (fun k i _ _ hi _ => ?_) (fun k _ _ _ => ?_) () trivial k zq7
   · simp only [spec_NameFault.l0]
     rw [if_pos zq7, if_pos zq7, wrap_in zq7 zq7, bt_nat, byte_spec]
     unfold nameStep
     cases nameB (s.data.toList.getD i 0) <;> rfl
   · simp only [spec_NameFault.l0]
     rw [if_neg zq7]
theorem byte_impl {α : Type} (b : UInt8) (x y : α) :
 (if (b.toNat : Int) ≥ 97 then (if (b.toNat : Int) ≤ 122 then x else (if (b.toNat : Int) ≥ 48 then (if (b.toNat : Int) ≤ 57 then x else (if (b.toNat : Int) = 46 then x else (if (b.toNat : Int) = 95 then x else (if (b.toNat : Int) = 45 then x else y)))) else (if (b.toNat : Int) = 46 then x else (if (b.toNat : Int) = 95 then x else (if (b.toNat : Int) = 45 then x else y))))) else (if (b.toNat : Int) ≥ 48 then (if (b.toNat : Int) ≤ 57 then x else (if (b.toNat : Int) = 46 then x else (if (b.toNat : Int) = 95 then x else (if (b.toNat : Int) = 45 then x else y)))) else (if (b.toNat : Int) = 46 then x else (if (b.toNat : Int) = 95 then x else (if (b.toNat : Int) = 45 then x else y))))) = if nameB b = true then x else y := by
 unfold nameB
 generalize b.toNat = n
 by_cases h : 97 ≤ n ∧ n ≤ 122 ∨ 48 ≤ n ∧ n ≤ 57 ∨ n = 46 ∨ n = 95 ∨ n = 45
 · rw [if_pos (decide_eq_true h)]
   (repeat' split) <;> first | rfl | (exfalso; omega)
 · rw [if_neg (fun z => h (of_decide_eq_true z))]
   (repeat' split) <;> first | rfl | (exfalso; omega)
theorem impl_name (s : ByteArray) (k : Nat) (hk : s.size + 2 < k ∨ 16 < k) : impl_NameFault.f k s = some (if nameM s.data.toList = true then 0 else 1) := by
 unfold impl_NameFault.f
 rw [name_ifs s (impl_NameFault.j0 k s)]
 unfold nameM
 obtain ⟨k, rfl⟩ : ∃ m, k = m + 1 := ⟨k - 1, by omega⟩
 simp only [impl_NameFault.j0]
 cases hx : (decide (1 ≤ s.data.toList.length) && decide (s.data.toList.length ≤ 12) && !(s.data.toList == [46]) && !(s.data.toList == [46, 46])) with
 | false => rfl
 | true =>
   have hl : s.size ≤ 12 := by
    rw [size_list]
    simp only [Bool.and_eq_true, decide_eq_true_eq] at hx
    exact hx.1.1.2
   rw [if_neg zq13, Bool.true_and, ← run_name]
   refine loop0 (F := fun k i (_ : Unit) => impl_NameFault.l0 k s (s.size : Int) (i : Int)) s.size 0 (fun _ _ => True) (fun _ _ _ _ _ _ => trivial) (fun k i _ _ hi _ => ?_) (fun k _ _ _ => ?_) () trivial k zq7
   · simp only [impl_NameFault.l0]
     rw [if_pos zq7, if_pos zq7, if_pos zq7, wrap_in zq7 zq7, bt_nat, byte_impl]
     unfold nameStep
     cases nameB (s.data.toList.getD i 0) <;> rfl
   · simp only [impl_NameFault.l0]
     rw [if_neg zq7]
end Go.Proofs.YtkjgnnhpjcofiaaGreatDoorX

namespace Go.Proofs.YtkjgnnhpjcofiaaGreatDoor.PX
open Go.RowKit Go.Proofs.YtkjgnnhpjcofiaaGreatDoorW.PrintWords Go.Proofs.YtkjgnnhpjcofiaaGreatDoorW.PrintLast Go.Proofs.YtkjgnnhpjcofiaaGreatDoorW.PrintMore
attribute [local go_sem] max2_int min2_int max_two min_two max_three min_three max_four min_four   -- for this text's walks alone
set_option linter.unusedVariables false
set_option linter.unusedSimpArgs false
def spec_l6Words.f  : Option (List ByteArray) := some (([(⟨#[]⟩ : ByteArray), (⟨#[102, 105, 108, 101]⟩ : ByteArray), (⟨#[114, 117, 110]⟩ : ByteArray), (⟨#[116, 114, 101, 101]⟩ : ByteArray)] : List ByteArray))
set_option maxHeartbeats 8000000 in
set_option maxRecDepth 100000 in
theorem spec_l6Words.calls  (r : List ByteArray) (w : World) (h : spec_l6Words.f  = some r) :
  Calls Tryz.prog 136 #[] w fun e w' => ∃ v0_ : Value, e = .returned (v0_) ∧ Kd.R Kd.string 9 w' w.heap.size (fun _ => True) v0_ r ∧ Below w.heap.size w w' := by
 have HB := zK (Below.refl w.heap.size w)
 have H : (some (([(⟨#[]⟩ : ByteArray), (⟨#[102, 105, 108, 101]⟩ : ByteArray), (⟨#[114, 117, 110]⟩ : ByteArray), (⟨#[116, 114, 101, 101]⟩ : ByteArray)] : List ByteArray))) = some r := h
 clear h
 obtain ⟨y127, hy127⟩ : ∃ y_ : List ByteArray, y_ = (([(⟨#[]⟩ : ByteArray), (⟨#[102, 105, 108, 101]⟩ : ByteArray), (⟨#[114, 117, 110]⟩ : ByteArray), (⟨#[116, 114, 101, 101]⟩ : ByteArray)] : List ByteArray)) := ⟨_, rfl⟩
 replace H : (some y127) = some r := by first | (rw [hy127]; with_reducible exact H) | (have H2_ := (Option.bind_some _ _).symm.trans H; rw [hy127]; with_reducible exact H2_) | (have H2_ := (Option.bind_some _ _).symm.trans H; with_reducible exact H2_) | with_reducible exact H | (rw [hy127]; exact H) | exact H
 have Ny127 := zK hy127
 clear hy127
 obtain rfl := Option.some.inj H
 go_enter Tryz.func136, Tryz.ntmps136
 go_wp2_with (first | ((with_reducible refine gate_dst (N := 1) rfl ?_); refine Kd.R_lit Kd.string _ 9 ?hg (N := 1) ?hd (xs := ([(⟨#[]⟩ : ByteArray), (⟨#[102, 105, 108, 101]⟩ : ByteArray), (⟨#[114, 117, 110]⟩ : ByteArray), (⟨#[116, 114, 101, 101]⟩ : ByteArray)] : List ByteArray)) (inner := [.string (⟨#[]⟩ : ByteArray), .string (⟨#[102, 105, 108, 101]⟩ : ByteArray), .string (⟨#[114, 117, 110]⟩ : ByteArray), .string (⟨#[116, 114, 101, 101]⟩ : ByteArray)]) (ok := fun _ => True) (okp := fun _ => True) ?hr ?hp (fun _ hk => hk) trivial (Below.refl _ _) (Nat.le_refl _) zq16 ?_; (case hd => rfl); (case hg => rfl); (case hr => first | (go_simp; done) | (go_simp; rfl)); (case hp => exact (Reps.one (show Kd.M Kd.string _ _ _ (⟨#[]⟩ : ByteArray) [.string (⟨#[]⟩ : ByteArray)] from rfl) (Reps.one (show Kd.M Kd.string _ _ _ (⟨#[102, 105, 108, 101]⟩ : ByteArray) [.string (⟨#[102, 105, 108, 101]⟩ : ByteArray)] from rfl) (Reps.one (show Kd.M Kd.string _ _ _ (⟨#[114, 117, 110]⟩ : ByteArray) [.string (⟨#[114, 117, 110]⟩ : ByteArray)] from rfl) (Reps.one (show Kd.M Kd.string _ _ _ (⟨#[116, 114, 101, 101]⟩ : ByteArray) [.string (⟨#[116, 114, 101, 101]⟩ : ByteArray)] from rfl) (Reps.none _ _)))))); intro v128 w1 ho2 hb hg_ hnew_; clear hg_ hnew_; (first | rw [← Ny127.out] at ho2 | (simp only [Int.reduceToNat] at ho2; rw [← Ny127.out] at ho2)); have n0_ := zK (Kd.R_lower ho2 (below_size zq0)); have n1_ := zK (below_step zq0 hb); clear HB; have HO129 := n0_; have HB := n1_; clear n0_ n1_; clear hb ho2))
 go_ret
 exact ⟨_, zq5, (by (with_reducible repeat (first | apply zR | apply zV | apply zW)); exact HO129.out), zq0⟩
def spec_l6Tree.l0 : Nat → List (S118) → ByteArray → Int → Option (ByteArray)
 | 0, _, _, _ => none
 | k + 1, x0, x3, x4 => if x4 < (x0.length : Int) then ((spec_l6Words.f).bind fun t141 => (if 0 ≤ x4 then (if 0 ≤ ((rd_T118 x0 x4).f1) then (if ((rd_T118 x0 x4).f1) < (t141.length : Int) then (if x3.size + (rdOf ByteArray.empty t141 ((rd_T118 x0 x4).f1)).size ≤ 9223372036854775807 then (if (x3 ++ (rdOf ByteArray.empty t141 ((rd_T118 x0 x4).f1))).size + 1 ≤ 9223372036854775807 then (if ((x3 ++ (rdOf ByteArray.empty t141 ((rd_T118 x0 x4).f1))) ++ (⟨#[32]⟩ : ByteArray)).size + ((rd_T118 x0 x4).f2).size ≤ 9223372036854775807 then (if (((x3 ++ (rdOf ByteArray.empty t141 ((rd_T118 x0 x4).f1))) ++ (⟨#[32]⟩ : ByteArray)) ++ ((rd_T118 x0 x4).f2)).size + 1 ≤ 9223372036854775807 then (if ((((x3 ++ (rdOf ByteArray.empty t141 ((rd_T118 x0 x4).f1))) ++ (⟨#[32]⟩ : ByteArray)) ++ ((rd_T118 x0 x4).f2)) ++ (⟨#[32]⟩ : ByteArray)).size + ((rd_T118 x0 x4).f0).size ≤ 9223372036854775807 then (if (((((x3 ++ (rdOf ByteArray.empty t141 ((rd_T118 x0 x4).f1))) ++ (⟨#[32]⟩ : ByteArray)) ++ ((rd_T118 x0 x4).f2)) ++ (⟨#[32]⟩ : ByteArray)) ++ ((rd_T118 x0 x4).f0)).size + 1 ≤ 9223372036854775807 then (spec_l6Tree.l0 k x0 ((((((x3 ++ (rdOf ByteArray.empty t141 ((rd_T118 x0 x4).f1))) ++ (⟨#[32]⟩ : ByteArray)) ++ ((rd_T118 x0 x4).f2)) ++ (⟨#[32]⟩ : ByteArray)) ++ ((rd_T118 x0 x4).f0)) ++ (⟨#[10]⟩ : ByteArray)) (wrap64 (x4 + 1))) else (none)) else (none)) else (none)) else (none)) else (none)) else (none)) else (none)) else (none)) else (none))) else (some x3)
def spec_l6Tree.f (k : Nat) (l0 : List (S118)) : Option (ByteArray) := spec_l6Tree.l0 k l0 (⟨#[]⟩ : ByteArray) 0
def spec_l6Tree.T5 : Bool × List (List Nat × List Nat) := (true, [([], []), ([], []), ([], []), ([], []), ([2, 3], [2, 3]), ([4], [4]), ([5], [5]), ([1, 6], [1, 6]), ([7], [7]), ([0, 8], [0, 8]), ([9], [9]), ([], []), ([], []), ([11, 12], [11, 12]), ([13], [13]), ([14], [14]), ([10, 15], [10, 15]), ([16], [16]), ([], []), ([], []), ([18, 19], [18, 19]), ([20], [20]), ([21], [21]), ([17, 22], [17, 22]), ([23], [23]), ([24, 1, 0, 1, 2, 3, 4, 5, 6, 7, 8, 9, 10, 11, 12, 13, 14, 15, 16, 17, 18, 19, 20, 21, 22, 23, 24], [0, 24])])
def spec_l6Tree.B5 : List Nat := [0, 0, 0, 0, 12, 28, 60, 126, 254, 511, 1023, 0, 0, 6144, 14336, 30720, 65535, 131071, 0, 0, 786432, 1835008, 3932160, 8388607, 16777215, 33554431]
theorem spec_l6Tree.tab5 : rtab .any (opsOf Tryz.f87 5) = spec_l6Tree.T5 := by kernel_rfl
theorem spec_l6Tree.bits5 : waitsOk spec_l6Tree.T5.2 spec_l6Tree.B5 = true := by kernel_rfl
set_option maxHeartbeats 8000000 in
set_option maxRecDepth 100000 in
theorem spec_l6Tree.calls (k : Nat) (A0 : Option Addr) (c0 : Nat) (l0 : List (S118)) (r : ByteArray) (w : World) (hr0 : Kd.C k118 w A0 l0.length l0) (hc0 : l0.length ≤ c0) (h : spec_l6Tree.f k l0 = some r) :
  Calls Tryz.prog 87 #[.slice A0 l0.length c0] w fun e w' => e = .returned (.string r) ∧ Below w.heap.size w w' := by
 have HR0 := zK hr0
 have HC0 := zK hc0
 clear hr0 hc0
 have HB := zK (Below.refl w.heap.size w)
 have H : (spec_l6Tree.l0 k l0 (⟨#[]⟩ : ByteArray) 0) = some r := h
 clear h
 have H' := zK H
 clear H
 go_enter Tryz.func87, Tryz.ntmps87
 go_wp2
 go_loopg [3, 4] k (fun kq v3 v4 w' => ∃ (x3_1 : ByteArray) (x4_1 : Int), v3 = .string x3_1 ∧ v4 = .int .i64 x4_1 ∧ Aside0 (spec_l6Tree.l0 kq l0 x3_1 x4_1 = some r) ∧ Aside0 (kq ≤ k) ∧ Aside0 (Below w.heap.size w w'))
 case atStart => exact ⟨((⟨#[]⟩ : ByteArray)), (0), zq4, zq4, H', ⟨Nat.le_refl _⟩, ⟨by repeat (first | (with_reducible first | exact HB.out | apply zA | apply zN | apply zD) | exact HB.out)⟩⟩
 case round =>
  clear H'
  obtain ⟨x3_1, x4_1, rfl, rfl, HA, HK1, HB⟩ := hrel
  cases gk with
  | zero => exact absurd HA.out (by simp [spec_l6Tree.l0])
  | succ k1 =>
   have H := HA.out
   clear HA
   simp only [spec_l6Tree.l0] at H
   by_cases c2 : x4_1 < (l0.length : Int)
   ·
    rw [if_pos c2] at H
    have c2b0 : decide (x4_1 < (l0.length : Int)) = true := decide_eq_true c2
    clear c2
    replace H := Option.bind_eq_some_iff.mp H
    obtain ⟨t141, A30, H⟩ := H
    replace H : (if 0 ≤ x4_1 then (if 0 ≤ ((rd_T118 l0 x4_1).f1) then (if ((rd_T118 l0 x4_1).f1) < (t141.length : Int) then (if x3_1.size + (rdOf ByteArray.empty t141 ((rd_T118 l0 x4_1).f1)).size ≤ 9223372036854775807 then (if (x3_1 ++ (rdOf ByteArray.empty t141 ((rd_T118 l0 x4_1).f1))).size + 1 ≤ 9223372036854775807 then (if ((x3_1 ++ (rdOf ByteArray.empty t141 ((rd_T118 l0 x4_1).f1))) ++ (⟨#[32]⟩ : ByteArray)).size + ((rd_T118 l0 x4_1).f2).size ≤ 9223372036854775807 then (if (((x3_1 ++ (rdOf ByteArray.empty t141 ((rd_T118 l0 x4_1).f1))) ++ (⟨#[32]⟩ : ByteArray)) ++ ((rd_T118 l0 x4_1).f2)).size + 1 ≤ 9223372036854775807 then (if ((((x3_1 ++ (rdOf ByteArray.empty t141 ((rd_T118 l0 x4_1).f1))) ++ (⟨#[32]⟩ : ByteArray)) ++ ((rd_T118 l0 x4_1).f2)) ++ (⟨#[32]⟩ : ByteArray)).size + ((rd_T118 l0 x4_1).f0).size ≤ 9223372036854775807 then (if (((((x3_1 ++ (rdOf ByteArray.empty t141 ((rd_T118 l0 x4_1).f1))) ++ (⟨#[32]⟩ : ByteArray)) ++ ((rd_T118 l0 x4_1).f2)) ++ (⟨#[32]⟩ : ByteArray)) ++ ((rd_T118 l0 x4_1).f0)).size + 1 ≤ 9223372036854775807 then (spec_l6Tree.l0 k1 l0 ((((((x3_1 ++ (rdOf ByteArray.empty t141 ((rd_T118 l0 x4_1).f1))) ++ (⟨#[32]⟩ : ByteArray)) ++ ((rd_T118 l0 x4_1).f2)) ++ (⟨#[32]⟩ : ByteArray)) ++ ((rd_T118 l0 x4_1).f0)) ++ (⟨#[10]⟩ : ByteArray)) (wrap64 (x4_1 + 1))) else (none)) else (none)) else (none)) else (none)) else (none)) else (none)) else (none)) else (none)) else (none)) = some r := H
    have A3 := zK A30
    clear A30
    by_cases c4 : 0 ≤ x4_1
    ·
     rw [if_pos c4] at H
     have c4b0 : decide (0 ≤ x4_1) = true := decide_eq_true c4
     clear c4
     by_cases c5 : 0 ≤ ((rd_T118 l0 x4_1).f1)
     ·
      rw [if_pos c5] at H
      have c5b0 : decide (0 ≤ ((rd_T118 l0 x4_1).f1)) = true := decide_eq_true c5
      clear c5
      by_cases c6 : ((rd_T118 l0 x4_1).f1) < (t141.length : Int)
      ·
       rw [if_pos c6] at H
       have c6b0 : decide (((rd_T118 l0 x4_1).f1) < (t141.length : Int)) = true := decide_eq_true c6
       clear c6
       by_cases c7 : x3_1.size + (rdOf ByteArray.empty t141 ((rd_T118 l0 x4_1).f1)).size ≤ 9223372036854775807
       ·
        rw [if_pos c7] at H
        have c7b0 := eq_true c7
        have c7b1 : decide (x3_1.size + (rdOf ByteArray.empty t141 ((rd_T118 l0 x4_1).f1)).size ≤ 9223372036854775807) = true := decide_eq_true c7
        try have c7b2 : (9223372036854775807 < x3_1.size + (rdOf ByteArray.empty t141 ((rd_T118 l0 x4_1).f1)).size) = False := eq_false (Nat.not_lt.2 c7)
        by_cases c8 : (x3_1 ++ (rdOf ByteArray.empty t141 ((rd_T118 l0 x4_1).f1))).size + 1 ≤ 9223372036854775807
        ·
         rw [if_pos c8] at H
         have c8b0 := eq_true c8
         have c8b1 : decide ((x3_1 ++ (rdOf ByteArray.empty t141 ((rd_T118 l0 x4_1).f1))).size + 1 ≤ 9223372036854775807) = true := decide_eq_true c8
         try have c8b2 : (9223372036854775807 < (x3_1 ++ (rdOf ByteArray.empty t141 ((rd_T118 l0 x4_1).f1))).size + 1) = False := eq_false (Nat.not_lt.2 c8)
         try have c8b3 := c8b2
         try simp only [ByteArray.size_append, X.szLit, List.size_toArray, List.length_cons, List.length_nil, Nat.zero_add, Nat.reduceAdd] at c8b3
         by_cases c9 : ((x3_1 ++ (rdOf ByteArray.empty t141 ((rd_T118 l0 x4_1).f1))) ++ (⟨#[32]⟩ : ByteArray)).size + ((rd_T118 l0 x4_1).f2).size ≤ 9223372036854775807
         ·
          rw [if_pos c9] at H
          have c9b0 := eq_true c9
          have c9b1 : decide (((x3_1 ++ (rdOf ByteArray.empty t141 ((rd_T118 l0 x4_1).f1))) ++ (⟨#[32]⟩ : ByteArray)).size + ((rd_T118 l0 x4_1).f2).size ≤ 9223372036854775807) = true := decide_eq_true c9
          try have c9b2 : (9223372036854775807 < ((x3_1 ++ (rdOf ByteArray.empty t141 ((rd_T118 l0 x4_1).f1))) ++ (⟨#[32]⟩ : ByteArray)).size + ((rd_T118 l0 x4_1).f2).size) = False := eq_false (Nat.not_lt.2 c9)
          try have c9b3 := c9b2
          try simp only [ByteArray.size_append, X.szLit, List.size_toArray, List.length_cons, List.length_nil, Nat.zero_add, Nat.reduceAdd] at c9b3
          by_cases c10 : (((x3_1 ++ (rdOf ByteArray.empty t141 ((rd_T118 l0 x4_1).f1))) ++ (⟨#[32]⟩ : ByteArray)) ++ ((rd_T118 l0 x4_1).f2)).size + 1 ≤ 9223372036854775807
          ·
           rw [if_pos c10] at H
           have c10b0 := eq_true c10
           have c10b1 : decide ((((x3_1 ++ (rdOf ByteArray.empty t141 ((rd_T118 l0 x4_1).f1))) ++ (⟨#[32]⟩ : ByteArray)) ++ ((rd_T118 l0 x4_1).f2)).size + 1 ≤ 9223372036854775807) = true := decide_eq_true c10
           try have c10b2 : (9223372036854775807 < (((x3_1 ++ (rdOf ByteArray.empty t141 ((rd_T118 l0 x4_1).f1))) ++ (⟨#[32]⟩ : ByteArray)) ++ ((rd_T118 l0 x4_1).f2)).size + 1) = False := eq_false (Nat.not_lt.2 c10)
           try have c10b3 := c10b2
           try simp only [ByteArray.size_append, X.szLit, List.size_toArray, List.length_cons, List.length_nil, Nat.zero_add, Nat.reduceAdd] at c10b3
           by_cases c11 : ((((x3_1 ++ (rdOf ByteArray.empty t141 ((rd_T118 l0 x4_1).f1))) ++ (⟨#[32]⟩ : ByteArray)) ++ ((rd_T118 l0 x4_1).f2)) ++ (⟨#[32]⟩ : ByteArray)).size + ((rd_T118 l0 x4_1).f0).size ≤ 9223372036854775807
           ·
            rw [if_pos c11] at H
            have c11b0 := eq_true c11
            have c11b1 : decide (((((x3_1 ++ (rdOf ByteArray.empty t141 ((rd_T118 l0 x4_1).f1))) ++ (⟨#[32]⟩ : ByteArray)) ++ ((rd_T118 l0 x4_1).f2)) ++ (⟨#[32]⟩ : ByteArray)).size + ((rd_T118 l0 x4_1).f0).size ≤ 9223372036854775807) = true := decide_eq_true c11
            try have c11b2 : (9223372036854775807 < ((((x3_1 ++ (rdOf ByteArray.empty t141 ((rd_T118 l0 x4_1).f1))) ++ (⟨#[32]⟩ : ByteArray)) ++ ((rd_T118 l0 x4_1).f2)) ++ (⟨#[32]⟩ : ByteArray)).size + ((rd_T118 l0 x4_1).f0).size) = False := eq_false (Nat.not_lt.2 c11)
            try have c11b3 := c11b2
            try simp only [ByteArray.size_append, X.szLit, List.size_toArray, List.length_cons, List.length_nil, Nat.zero_add, Nat.reduceAdd] at c11b3
            by_cases c12 : (((((x3_1 ++ (rdOf ByteArray.empty t141 ((rd_T118 l0 x4_1).f1))) ++ (⟨#[32]⟩ : ByteArray)) ++ ((rd_T118 l0 x4_1).f2)) ++ (⟨#[32]⟩ : ByteArray)) ++ ((rd_T118 l0 x4_1).f0)).size + 1 ≤ 9223372036854775807
            ·
             rw [if_pos c12] at H
             have c12b0 := eq_true c12
             have c12b1 : decide ((((((x3_1 ++ (rdOf ByteArray.empty t141 ((rd_T118 l0 x4_1).f1))) ++ (⟨#[32]⟩ : ByteArray)) ++ ((rd_T118 l0 x4_1).f2)) ++ (⟨#[32]⟩ : ByteArray)) ++ ((rd_T118 l0 x4_1).f0)).size + 1 ≤ 9223372036854775807) = true := decide_eq_true c12
             try have c12b2 : (9223372036854775807 < (((((x3_1 ++ (rdOf ByteArray.empty t141 ((rd_T118 l0 x4_1).f1))) ++ (⟨#[32]⟩ : ByteArray)) ++ ((rd_T118 l0 x4_1).f2)) ++ (⟨#[32]⟩ : ByteArray)) ++ ((rd_T118 l0 x4_1).f0)).size + 1) = False := eq_false (Nat.not_lt.2 c12)
             try have c12b3 := c12b2
             try simp only [ByteArray.size_append, X.szLit, List.size_toArray, List.length_cons, List.length_nil, Nat.zero_add, Nat.reduceAdd] at c12b3
             have H' := zK H
             clear H
             try go_wp2
             have n0_ := zK (zD HB.out)
             clear HB
             have HB := n0_
             clear n0_
             have p144 : 0 ≤ (x4_1 : Int) := zX zq2
             have q144 : x4_1 < (l0.length : Int) := zX zq2
             obtain ⟨ad144, e144, hx144_0, hx144_1, hx144_2⟩ := at_T118 HR0.out x4_1 p144 q144
             have hw144_2 := hx144_2
             have hw144_1 := hx144_1
             have hw144_0 := hx144_0
             cases e144
             replace hx144_0 := (HB.out.cell (zL w _ hx144_0)).trans hx144_0
             replace hx144_1 := (HB.out.cell (zL w _ hx144_1)).trans hx144_1
             replace hx144_2 := (HB.out.cell (zL w _ hx144_2)).trans hx144_2
             replace p144 := eq_true p144
             replace q144 := eq_true q144
             have p146 : 0 ≤ (x4_1 : Int) := zX zq2
             have q146 : x4_1 < (l0.length : Int) := zX zq2
             obtain ⟨ad146, e146, hx146_0, hx146_1, hx146_2⟩ := at_T118 HR0.out x4_1 p146 q146
             have hw146_2 := hx146_2
             have hw146_1 := hx146_1
             have hw146_0 := hx146_0
             obtain rfl : ad144 = ad146 := (by injection e146)
             replace hx146_0 := (HB.out.cell (zL w _ hx146_0)).trans hx146_0
             replace hx146_1 := (HB.out.cell (zL w _ hx146_1)).trans hx146_1
             replace hx146_2 := (HB.out.cell (zL w _ hx146_2)).trans hx146_2
             replace p146 := eq_true p146
             replace q146 := eq_true q146
             have p147 : 0 ≤ (x4_1 : Int) := zX zq2
             have q147 : x4_1 < (l0.length : Int) := zX zq2
             obtain ⟨ad147, e147, hx147_0, hx147_1, hx147_2⟩ := at_T118 HR0.out x4_1 p147 q147
             have hw147_2 := hx147_2
             have hw147_1 := hx147_1
             have hw147_0 := hx147_0
             obtain rfl : ad144 = ad147 := (by injection e147)
             replace hx147_0 := (HB.out.cell (zL w _ hx147_0)).trans hx147_0
             replace hx147_1 := (HB.out.cell (zL w _ hx147_1)).trans hx147_1
             replace hx147_2 := (HB.out.cell (zL w _ hx147_2)).trans hx147_2
             replace p147 := eq_true p147
             replace q147 := eq_true q147
             refine start_ (n := 26) (S := fun w' => w'.cell? (ad144.add ((x4_1).toNat * 3)) = some (.string ((rd_T118 l0 x4_1).f0)) ∧ w'.cell? ⟨(ad144.add ((x4_1).toNat * 3)).block, (ad144.add ((x4_1).toNat * 3)).off + 1, none⟩ = some (.int .i64 ((rd_T118 l0 x4_1).f1)) ∧ w'.cell? ⟨(ad144.add ((x4_1).toNat * 3)).block, (ad144.add ((x4_1).toNat * 3)).off + 2, none⟩ = some (.string ((rd_T118 l0 x4_1).f2)) ∧ w'.cell? (ad144.add ((x4_1).toNat * 3)) = some (.string ((rd_T118 l0 x4_1).f0)) ∧ w'.cell? ⟨(ad144.add ((x4_1).toNat * 3)).block, (ad144.add ((x4_1).toNat * 3)).off + 1, none⟩ = some (.int .i64 ((rd_T118 l0 x4_1).f1)) ∧ w'.cell? ⟨(ad144.add ((x4_1).toNat * 3)).block, (ad144.add ((x4_1).toNat * 3)).off + 2, none⟩ = some (.string ((rd_T118 l0 x4_1).f2)) ∧ w'.cell? (ad144.add ((x4_1).toNat * 3)) = some (.string ((rd_T118 l0 x4_1).f0)) ∧ w'.cell? ⟨(ad144.add ((x4_1).toNat * 3)).block, (ad144.add ((x4_1).toNat * 3)).off + 1, none⟩ = some (.int .i64 ((rd_T118 l0 x4_1).f1)) ∧ w'.cell? ⟨(ad144.add ((x4_1).toNat * 3)).block, (ad144.add ((x4_1).toNat * 3)).off + 2, none⟩ = some (.string ((rd_T118 l0 x4_1).f2))) (ds := []) #[zF,zF,zF,zF,zF,zF,zF,zF,zF,zF,zF,zF,zF,zF,zF,zF,zF,zF,zF,zF,zF,zF,zF,zF,zF,zF] zq3 rfl rfl ⟨((HB.out.cell (zL w _ hw144_0)).trans hw144_0), ((HB.out.cell (zL w _ hw144_1)).trans hw144_1), ((HB.out.cell (zL w _ hw144_2)).trans hw144_2), ((HB.out.cell (zL w _ hw146_0)).trans hw146_0), ((HB.out.cell (zL w _ hw146_1)).trans hw146_1), ((HB.out.cell (zL w _ hw146_2)).trans hw146_2), ((HB.out.cell (zL w _ hw147_0)).trans hw147_0), ((HB.out.cell (zL w _ hw147_1)).trans hw147_1), ((HB.out.cell (zL w _ hw147_2)).trans hw147_2)⟩ (fun hHeld => ?_); refine with_tabW spec_l6Tree.tab5 spec_l6Tree.bits5 (fun HT_ HW_ => ?_)
             generalize wr.drew = w13 at HB hx144_0 hx144_1 hx144_2 hx146_0 hx146_1 hx146_2 hx147_0 hx147_1 hx147_2 hHeld ⊢
             refine pure_ (i := 0) (N := some 11) (v := ?_) (a' := ?_) #[zB,zF,zF,zF,zF,zF,zF,zF,zF,zF,zF,zF,zF,zF,zF,zF,zF,zF,zF,zF,zF,zF,zF,zF,zF,zF] rfl rfl (any_of HT_.out zq3) (fun _ _ _ h => h) (Or.inl ⟨by rfl, ?_⟩) ?_ ?_
             rotate_left
             ·
              intro w'
              go_simp
              with_reducible rfl
             rotate_left
             ·
              simp only [Act.put, zS, zT, zU, i64_w, i32_w]
              rfl
             refine pure_ (i := 2) (N := some 13) (v := ?_) (a' := ?_) #[zB,zF,zB,zF,zF,zF,zF,zF,zF,zF,zF,zF,zF,zF,zF,zF,zF,zF,zF,zF,zF,zF,zF,zF,zF,zF] rfl rfl (any_of HT_.out zq3) (fun _ _ _ h => h) (Or.inl ⟨by rfl, ?_⟩) ?_ ?_
             rotate_left
             ·
              intro w'
              go_simp
              with_reducible rfl
             rotate_left
             ·
              simp only [Act.put, zS, zT, zU, i64_w, i32_w]
              rfl
             refine pure_ (i := 3) (N := some 14) (v := ?_) (a' := ?_) #[zB,zF,zB,zB,zF,zF,zF,zF,zF,zF,zF,zF,zF,zF,zF,zF,zF,zF,zF,zF,zF,zF,zF,zF,zF,zF] rfl rfl (any_of HT_.out zq3) (fun _ _ _ h => h) (Or.inl ⟨by rfl, ?_⟩) ?_ ?_
             rotate_left
             ·
              intro w'
              go_simp
              with_reducible rfl
             rotate_left
             ·
              simp only [Act.put, zS, zT, zU, i64_w, i32_w]
              rfl
             refine pure_ (i := 4) (N := some 15) (v := ?_) (a' := ?_) #[zB,zF,zB,zB,zB,zF,zF,zF,zF,zF,zF,zF,zF,zF,zF,zF,zF,zF,zF,zF,zF,zF,zF,zF,zF,zF] rfl rfl (any_of HT_.out zq3) (fun _ _ _ h => h) (Or.inl ⟨by rfl, ?_⟩) ?_ ?_
             rotate_left
             ·
              intro w'
              go_simp
              with_reducible rfl
             rotate_left
             ·
              simp only [Act.put, zS, zT, zU, i64_w, i32_w]
              rfl
             refine pure_ (i := 5) (N := some 16) (v := ?_) (a' := ?_) #[zB,zF,zB,zB,zB,zB,zF,zF,zF,zF,zF,zF,zF,zF,zF,zF,zF,zF,zF,zF,zF,zF,zF,zF,zF,zF] rfl rfl (any_of HT_.out zq3) (fun _ _ _ h => h) (Or.inl ⟨by rfl, ?_⟩) ?_ ?_
             rotate_left
             ·
              intro w'
              go_simp
              with_reducible rfl
             rotate_left
             ·
              simp only [Act.put, zS, zT, zU, i64_w, i32_w]
              rfl
             refine pure_ (i := 11) (N := some 22) (v := ?_) (a' := ?_) #[zB,zF,zB,zB,zB,zB,zF,zF,zF,zF,zF,zB,zF,zF,zF,zF,zF,zF,zF,zF,zF,zF,zF,zF,zF,zF] rfl rfl (any_of HT_.out zq3) (fun _ _ _ h => h) (Or.inl ⟨by rfl, ?_⟩) ?_ ?_
             rotate_left
             ·
              intro w'
              go_simp
              with_reducible rfl
             rotate_left
             ·
              simp only [Act.put, zS, zT, zU, i64_w, i32_w]
              rfl
             refine pure_ (i := 12) (N := some 23) (v := ?_) (a' := ?_) #[zB,zF,zB,zB,zB,zB,zF,zF,zF,zF,zF,zB,zB,zF,zF,zF,zF,zF,zF,zF,zF,zF,zF,zF,zF,zF] rfl rfl (any_of HT_.out zq3) (fun _ _ _ h => h) (Or.inl ⟨by rfl, ?_⟩) ?_ ?_
             rotate_left
             ·
              intro w'
              go_simp
              with_reducible rfl
             rotate_left
             ·
              simp only [Act.put, zS, zT, zU, i64_w, i32_w]
              rfl
             refine pure_ (i := 13) (N := some 24) (v := ?_) (a' := ?_) #[zB,zF,zB,zB,zB,zB,zF,zF,zF,zF,zF,zB,zB,zB,zF,zF,zF,zF,zF,zF,zF,zF,zF,zF,zF,zF] rfl rfl (any_of HT_.out zq3) (fun _ _ _ h => h) (Or.inl ⟨by rfl, ?_⟩) ?_ ?_
             rotate_left
             ·
              intro w'
              go_simp
              with_reducible rfl
             rotate_left
             ·
              simp only [Act.put, zS, zT, zU, i64_w, i32_w]
              rfl
             refine pure_ (i := 14) (N := some 25) (v := ?_) (a' := ?_) #[zB,zF,zB,zB,zB,zB,zF,zF,zF,zF,zF,zB,zB,zB,zB,zF,zF,zF,zF,zF,zF,zF,zF,zF,zF,zF] rfl rfl (any_of HT_.out zq3) (fun _ _ _ h => h) (Or.inl ⟨by rfl, ?_⟩) ?_ ?_
             rotate_left
             ·
              intro w'
              go_simp
              with_reducible rfl
             rotate_left
             ·
              simp only [Act.put, zS, zT, zU, i64_w, i32_w]
              rfl
             refine pure_ (i := 18) (N := some 29) (v := ?_) (a' := ?_) #[zB,zF,zB,zB,zB,zB,zF,zF,zF,zF,zF,zB,zB,zB,zB,zF,zF,zF,zB,zF,zF,zF,zF,zF,zF,zF] rfl rfl (any_of HT_.out zq3) (fun _ _ _ h => h) (Or.inl ⟨by rfl, ?_⟩) ?_ ?_
             rotate_left
             ·
              intro w'
              go_simp
              with_reducible rfl
             rotate_left
             ·
              simp only [Act.put, zS, zT, zU, i64_w, i32_w]
              rfl
             refine pure_ (i := 19) (N := some 30) (v := ?_) (a' := ?_) #[zB,zF,zB,zB,zB,zB,zF,zF,zF,zF,zF,zB,zB,zB,zB,zF,zF,zF,zB,zB,zF,zF,zF,zF,zF,zF] rfl rfl (any_of HT_.out zq3) (fun _ _ _ h => h) (Or.inl ⟨by rfl, ?_⟩) ?_ ?_
             rotate_left
             ·
              intro w'
              go_simp
              with_reducible rfl
             rotate_left
             ·
              simp only [Act.put, zS, zT, zU, i64_w, i32_w]
              rfl
             refine pure_ (i := 20) (N := some 31) (v := ?_) (a' := ?_) #[zB,zF,zB,zB,zB,zB,zF,zF,zF,zF,zF,zB,zB,zB,zB,zF,zF,zF,zB,zB,zB,zF,zF,zF,zF,zF] rfl rfl (any_of HT_.out zq3) (fun _ _ _ h => h) (Or.inl ⟨by rfl, ?_⟩) ?_ ?_
             rotate_left
             ·
              intro w'
              go_simp
              with_reducible rfl
             rotate_left
             ·
              simp only [Act.put, zS, zT, zU, i64_w, i32_w]
              rfl
             refine pure_ (i := 21) (N := some 32) (v := ?_) (a' := ?_) #[zB,zF,zB,zB,zB,zB,zF,zF,zF,zF,zF,zB,zB,zB,zB,zF,zF,zF,zB,zB,zB,zB,zF,zF,zF,zF] rfl rfl (any_of HT_.out zq3) (fun _ _ _ h => h) (Or.inl ⟨by rfl, ?_⟩) ?_ ?_
             rotate_left
             ·
              intro w'
              go_simp
              with_reducible rfl
             rotate_left
             ·
              simp only [Act.put, zS, zT, zU, i64_w, i32_w]
              rfl
             refine take_ (i := 6) (N := some 17) (v := ?_) (a' := ?_) #[zB,zF,zB,zB,zB,zB,zB,zF,zF,zF,zF,zB,zB,zB,zB,zF,zF,zF,zB,zB,zB,zB,zF,zF,zF,zF] rfl rfl (take_ofW HT_.out HW_.out zq3) (fun _ _ _ h => h) (Or.inl ⟨by rfl, ?_⟩) hHeld ?_ ?_
             rotate_left
             ·
              rintro w' ⟨s0, s1, s2, s3, s4, s5, s6, s7, s8⟩
              go_simp
              with_reducible rfl
             rotate_left
             ·
              simp only [Act.put, zS, zT, zU, i64_w, i32_w]
              rfl
             refine take_ (i := 15) (N := some 26) (v := ?_) (a' := ?_) #[zB,zF,zB,zB,zB,zB,zB,zF,zF,zF,zF,zB,zB,zB,zB,zB,zF,zF,zB,zB,zB,zB,zF,zF,zF,zF] rfl rfl (take_ofW HT_.out HW_.out zq3) (fun _ _ _ h => h) (Or.inl ⟨by rfl, ?_⟩) hHeld ?_ ?_
             rotate_left
             ·
              rintro w' ⟨s0, s1, s2, s3, s4, s5, s6, s7, s8⟩
              go_simp
              with_reducible rfl
             rotate_left
             ·
              simp only [Act.put, zS, zT, zU, i64_w, i32_w]
              rfl
             refine take_ (i := 22) (N := some 33) (v := ?_) (a' := ?_) #[zB,zF,zB,zB,zB,zB,zB,zF,zF,zF,zF,zB,zB,zB,zB,zB,zF,zF,zB,zB,zB,zB,zB,zF,zF,zF] rfl rfl (take_ofW HT_.out HW_.out zq3) (fun _ _ _ h => h) (Or.inl ⟨by rfl, ?_⟩) hHeld ?_ ?_
             rotate_left
             ·
              rintro w' ⟨s0, s1, s2, s3, s4, s5, s6, s7, s8⟩
              go_simp
              with_reducible rfl
             rotate_left
             ·
              simp only [Act.put, zS, zT, zU, i64_w, i32_w]
              rfl
             refine one_ (i := 1) (N := some 12) #[zB,zB,zB,zB,zB,zB,zB,zF,zF,zF,zF,zB,zB,zB,zB,zB,zF,zF,zB,zB,zB,zB,zB,zF,zF,zF] rfl rfl (one_of HT_.out zq3) zq13 (fun K hK => ?_)
             refine goes_ Tryz.func136 zq3 rfl #[] zq28 rfl rfl zq1 ?_
             with_reducible refine (spec_l6Words.calls  t141 _ A3.out).mono ?_
             rintro e w14 ⟨v142, rfl, ho0, hb⟩
             refine ⟨_, rfl, ?_⟩
             have n0_ := zK (Kd.R_lower ho0 (below_size zq0))
             have n1_ := zK (below_step zq0 hb)
             clear HB
             have HO143 := n0_
             have HB := n1_
             clear n0_ n1_
             (try clear hb)
             (try clear hb2)
             (try clear hk)
             (try clear hi)
             (try clear ho0)
             obtain ⟨Ao15, co15, eo15⟩ := Kd.R_slice HO143.out
             (first | subst eo15 | (injection eo15 with f1_ f2_ f3_; have f4_ := f1_.symm; have f5_ := f3_.symm; clear f1_ f2_ f3_; subst f4_; subst f5_))
             have p145 : 0 ≤ (((rd_T118 l0 x4_1).f1) : Int) := zX zq2
             have q145 : ((rd_T118 l0 x4_1).f1) < (t141.length : Int) := zX zq2
             obtain ⟨ad145, e145, hx145_0⟩ := Kd.at_string (Kd.R_reads' HO143.out).2.2 ((rd_T118 l0 x4_1).f1) p145 q145
             cases e145
             replace p145 := eq_true p145
             replace q145 := eq_true q145
             refine hK.out _ _ ⟨((HB.out.cell (zL w _ hw144_0)).trans hw144_0), ((HB.out.cell (zL w _ hw144_1)).trans hw144_1), ((HB.out.cell (zL w _ hw144_2)).trans hw144_2), ((HB.out.cell (zL w _ hw146_0)).trans hw146_0), ((HB.out.cell (zL w _ hw146_1)).trans hw146_1), ((HB.out.cell (zL w _ hw146_2)).trans hw146_2), ((HB.out.cell (zL w _ hw147_0)).trans hw147_0), ((HB.out.cell (zL w _ hw147_1)).trans hw147_1), ((HB.out.cell (zL w _ hw147_2)).trans hw147_2)⟩ (fun hHeld => X.wpAnyLast_more (fun w' => w'.cell? (ad144.add ((x4_1).toNat * 3)) = some (.string ((rd_T118 l0 x4_1).f0)) ∧ w'.cell? ⟨(ad144.add ((x4_1).toNat * 3)).block, (ad144.add ((x4_1).toNat * 3)).off + 1, none⟩ = some (.int .i64 ((rd_T118 l0 x4_1).f1)) ∧ w'.cell? ⟨(ad144.add ((x4_1).toNat * 3)).block, (ad144.add ((x4_1).toNat * 3)).off + 2, none⟩ = some (.string ((rd_T118 l0 x4_1).f2)) ∧ w'.cell? (ad144.add ((x4_1).toNat * 3)) = some (.string ((rd_T118 l0 x4_1).f0)) ∧ w'.cell? ⟨(ad144.add ((x4_1).toNat * 3)).block, (ad144.add ((x4_1).toNat * 3)).off + 1, none⟩ = some (.int .i64 ((rd_T118 l0 x4_1).f1)) ∧ w'.cell? ⟨(ad144.add ((x4_1).toNat * 3)).block, (ad144.add ((x4_1).toNat * 3)).off + 2, none⟩ = some (.string ((rd_T118 l0 x4_1).f2)) ∧ w'.cell? (ad144.add ((x4_1).toNat * 3)) = some (.string ((rd_T118 l0 x4_1).f0)) ∧ w'.cell? ⟨(ad144.add ((x4_1).toNat * 3)).block, (ad144.add ((x4_1).toNat * 3)).off + 1, none⟩ = some (.int .i64 ((rd_T118 l0 x4_1).f1)) ∧ w'.cell? ⟨(ad144.add ((x4_1).toNat * 3)).block, (ad144.add ((x4_1).toNat * 3)).off + 2, none⟩ = some (.string ((rd_T118 l0 x4_1).f2)) ∧ w'.cell? (ad145.add (((rd_T118 l0 x4_1).f1)).toNat) = some (.string (rdOf ByteArray.empty t141 ((rd_T118 l0 x4_1).f1)))) (fun _ ⟨s0, s1, s2, s3, s4, s5, s6, s7, s8, s9⟩ => ⟨s0, s1, s2, s3, s4, s5, s6, s7, s8⟩) ⟨((HB.out.cell (zL w _ hw144_0)).trans hw144_0), ((HB.out.cell (zL w _ hw144_1)).trans hw144_1), ((HB.out.cell (zL w _ hw144_2)).trans hw144_2), ((HB.out.cell (zL w _ hw146_0)).trans hw146_0), ((HB.out.cell (zL w _ hw146_1)).trans hw146_1), ((HB.out.cell (zL w _ hw146_2)).trans hw146_2), ((HB.out.cell (zL w _ hw147_0)).trans hw147_0), ((HB.out.cell (zL w _ hw147_1)).trans hw147_1), ((HB.out.cell (zL w _ hw147_2)).trans hw147_2), hx145_0⟩ (fun hHeld => ?_))
             clear hK K
             refine norm_ (a' := ?_) ?_ ?_
             rotate_left
             ·
              show Act.put _ (some 12) _ = _
              simp only [Act.put, zS, zT, zU, i64_w, i32_w]
              rfl
             refine pure_ (i := 7) (N := some 18) (v := ?_) (a' := ?_) #[zB,zB,zB,zB,zB,zB,zB,zB,zF,zF,zF,zB,zB,zB,zB,zB,zF,zF,zB,zB,zB,zB,zB,zF,zF,zF] rfl rfl (any_of HT_.out zq3) (fun _ _ _ h => h) (Or.inl ⟨by rfl, ?_⟩) ?_ ?_
             rotate_left
             ·
              intro w'
              go_simp
              with_reducible rfl
             rotate_left
             ·
              simp only [Act.put, zS, zT, zU, i64_w, i32_w]
              rfl
             refine take_ (i := 8) (N := some 19) (v := ?_) (a' := ?_) #[zB,zB,zB,zB,zB,zB,zB,zB,zB,zF,zF,zB,zB,zB,zB,zB,zF,zF,zB,zB,zB,zB,zB,zF,zF,zF] rfl rfl (take_ofW HT_.out HW_.out zq3) (fun _ _ _ h => h) (Or.inl ⟨by rfl, ?_⟩) hHeld ?_ ?_
             rotate_left
             ·
              rintro w' ⟨s0, s1, s2, s3, s4, s5, s6, s7, s8, s9⟩
              go_simp
              with_reducible rfl
             rotate_left
             ·
              simp only [Act.put, zS, zT, zU, i64_w, i32_w]
              rfl
             refine pure_ (i := 9) (N := some 20) (v := ?_) (a' := ?_) #[zB,zB,zB,zB,zB,zB,zB,zB,zB,zB,zF,zB,zB,zB,zB,zB,zF,zF,zB,zB,zB,zB,zB,zF,zF,zF] rfl rfl (any_of HT_.out zq3) (fun _ _ _ h => h) (Or.inl ⟨by rfl, ?_⟩) ?_ ?_
             rotate_left
             ·
              intro w'
              go_simp
              with_reducible rfl
             rotate_left
             ·
              simp only [Act.put, zS, zT, zU, i64_w, i32_w]
              rfl
             refine pure_ (i := 10) (N := some 21) (v := ?_) (a' := ?_) #[zB,zB,zB,zB,zB,zB,zB,zB,zB,zB,zB,zB,zB,zB,zB,zB,zF,zF,zB,zB,zB,zB,zB,zF,zF,zF] rfl rfl (any_of HT_.out zq3) (fun _ _ _ h => h) (Or.inl ⟨by rfl, ?_⟩) ?_ ?_
             rotate_left
             ·
              intro w'
              go_simp
              with_reducible rfl
             rotate_left
             ·
              simp only [Act.put, zS, zT, zU, i64_w, i32_w]
              rfl
             refine pure_ (i := 16) (N := some 27) (v := ?_) (a' := ?_) #[zB,zB,zB,zB,zB,zB,zB,zB,zB,zB,zB,zB,zB,zB,zB,zB,zB,zF,zB,zB,zB,zB,zB,zF,zF,zF] rfl rfl (any_of HT_.out zq3) (fun _ _ _ h => h) (Or.inl ⟨by rfl, ?_⟩) ?_ ?_
             rotate_left
             ·
              intro w'
              go_simp
              with_reducible rfl
             rotate_left
             ·
              simp only [Act.put, zS, zT, zU, i64_w, i32_w]
              rfl
             refine pure_ (i := 17) (N := some 28) (v := ?_) (a' := ?_) #[zB,zB,zB,zB,zB,zB,zB,zB,zB,zB,zB,zB,zB,zB,zB,zB,zB,zB,zB,zB,zB,zB,zB,zF,zF,zF] rfl rfl (any_of HT_.out zq3) (fun _ _ _ h => h) (Or.inl ⟨by rfl, ?_⟩) ?_ ?_
             rotate_left
             ·
              intro w'
              go_simp
              with_reducible rfl
             rotate_left
             ·
              simp only [Act.put, zS, zT, zU, i64_w, i32_w]
              rfl
             refine pure_ (i := 23) (N := some 34) (v := ?_) (a' := ?_) #[zB,zB,zB,zB,zB,zB,zB,zB,zB,zB,zB,zB,zB,zB,zB,zB,zB,zB,zB,zB,zB,zB,zB,zB,zF,zF] rfl rfl (any_of HT_.out zq3) (fun _ _ _ h => h) (Or.inl ⟨by rfl, ?_⟩) ?_ ?_
             rotate_left
             ·
              intro w'
              go_simp
              with_reducible rfl
             rotate_left
             ·
              simp only [Act.put, zS, zT, zU, i64_w, i32_w]
              rfl
             refine pure_ (i := 24) (N := some 35) (v := ?_) (a' := ?_) #[zB,zB,zB,zB,zB,zB,zB,zB,zB,zB,zB,zB,zB,zB,zB,zB,zB,zB,zB,zB,zB,zB,zB,zB,zB,zF] rfl rfl (any_of HT_.out zq3) (fun _ _ _ h => h) (Or.inl ⟨by rfl, ?_⟩) ?_ ?_
             rotate_left
             ·
              intro w'
              go_simp
              with_reducible rfl
             rotate_left
             ·
              simp only [Act.put, zS, zT, zU, i64_w, i32_w]
              rfl
             refine pure_ (i := 25) (N := some 3) (v := ?_) (a' := ?_) #[zB,zB,zB,zB,zB,zB,zB,zB,zB,zB,zB,zB,zB,zB,zB,zB,zB,zB,zB,zB,zB,zB,zB,zB,zB,zB] rfl rfl (any_of HT_.out zq3) (fun _ _ _ h => h) (Or.inl ⟨by rfl, ?_⟩) ?_ ?_
             rotate_left
             ·
              intro w'
              go_simp
              with_reducible rfl
             rotate_left
             ·
              simp only [Act.put, zS, zT, zU, i64_w, i32_w]
              rfl
             refine done_ (done_of HT_.out zq3) ?_
             try go_wp2
             go_roundg k1
             case measure => have := HK1.out; omega
             case rel => exact ⟨((((((x3_1 ++ (rdOf ByteArray.empty t141 ((rd_T118 l0 x4_1).f1))) ++ (⟨#[32]⟩ : ByteArray)) ++ ((rd_T118 l0 x4_1).f2)) ++ (⟨#[32]⟩ : ByteArray)) ++ ((rd_T118 l0 x4_1).f0)) ++ (⟨#[10]⟩ : ByteArray)), (wrap64 (x4_1 + 1)), zq4, zq4, H', ⟨by have := HK1.out; omega⟩, ⟨by repeat (first | (with_reducible first | exact HB.out | apply zA | apply zN | apply zD) | exact HB.out)⟩⟩
            rw [if_neg c12] at H
            exact absurd H zq16
           rw [if_neg c11] at H
           exact absurd H zq16
          rw [if_neg c10] at H
          exact absurd H zq16
         rw [if_neg c9] at H
         exact absurd H zq16
        rw [if_neg c8] at H
        exact absurd H zq16
       rw [if_neg c7] at H
       exact absurd H zq16
      rw [if_neg c6] at H
      exact absurd H zq16
     rw [if_neg c5] at H
     exact absurd H zq16
    rw [if_neg c4] at H
    exact absurd H zq16
   rw [if_neg c2] at H
   have c2b0 : decide (x4_1 < (l0.length : Int)) = false := decide_eq_false c2
   clear c2
   obtain rfl := Option.some.inj H
   go_wp2
   go_ret
   exact ⟨zq5, zq0⟩
def impl_within.f (a0 : Int) (a1 : Int) (a2 : Int) : Option (Bool) := if a0 ≥ a1 then (some (decide (a0 ≤ a2))) else (some false)
set_option maxHeartbeats 8000000 in
set_option maxRecDepth 100000 in
theorem impl_within.calls (a0 : Int) (a1 : Int) (a2 : Int) (r : Bool) (w : World) (h : impl_within.f a0 a1 a2 = some r) :
  Calls Tryz.prog 67 #[.int .i64 a0, .int .i64 a1, .int .i64 a2] w fun e w' => e = .returned (.bool r) ∧ Drawn0 w w' := by
 have H : (if a0 ≥ a1 then (some (decide (a0 ≤ a2))) else (some false)) = some r := h
 clear h
 by_cases c4 : a0 ≥ a1
 ·
  rw [if_pos c4] at H
  have c4b0 : decide (a1 ≤ a0) = true := decide_eq_true c4
  clear c4
  obtain rfl := Option.some.inj H
  go_enter Tryz.func67, Tryz.ntmps67
  go_wp2
  go_ret
  exact ⟨zq4, zq6⟩
 rw [if_neg c4] at H
 have c4b0 : decide (a1 ≤ a0) = false := decide_eq_false c4
 clear c4
 obtain rfl := Option.some.inj H
 go_enter Tryz.func67, Tryz.ntmps67
 go_wp2
 go_ret
 exact ⟨zq4, zq6⟩
def impl_kindAt.f (a0 : Int) : Option (Int) := if a0 = 3 then (some 2) else (some 1)
set_option maxHeartbeats 8000000 in
set_option maxRecDepth 100000 in
theorem impl_kindAt.calls (a0 : Int) (r : Int) (w : World) (h : impl_kindAt.f a0 = some r) :
  Calls Tryz.prog 235 #[.int .i64 a0] w fun e w' => e = .returned (.int .i64 r) ∧ Drawn0 w w' := by
 have H : (if a0 = 3 then (some 2) else (some 1)) = some r := h
 clear h
 by_cases c2 : a0 = 3
 ·
  rw [if_pos c2] at H
  have c2b0 : (a0 == 3) = true := beq_iff_eq.mpr c2
  have c2b1 : (a0 != 3) = false := bne_eq_false_iff_eq.mpr c2
  clear c2
  obtain rfl := Option.some.inj H
  go_enter Tryz.func235, Tryz.ntmps235
  go_wp2
  go_ret
  exact ⟨zq4, zq6⟩
 rw [if_neg c2] at H
 have c2b0 : (a0 == 3) = false := beq_eq_false_iff_ne.mpr c2
 have c2b1 : (a0 != 3) = true := bne_iff_ne.mpr c2
 obtain rfl := Option.some.inj H
 go_enter Tryz.func235, Tryz.ntmps235
 go_wp2
 go_ret
 exact ⟨zq4, zq6⟩
def spec_l6Split.l0 : Nat → ByteArray → List ByteArray → Int → Int → Option (List ByteArray)
 | 0, _, _, _, _ => none
 | k + 1, x0, x3, x4, x5 => if x5 ≤ (x0.size : Int) then (if x5 = (x0.size : Int) then (if 0 ≤ x4 then (if x4 ≤ x5 then (if x3.length < 8796093022208 then (spec_l6Split.l0 k x0 (x3 ++ [x0.extract (x4 : Int).toNat (x5 : Int).toNat]) (wrap64 (x5 + 1)) (wrap64 (x5 + 1))) else (none)) else (none)) else (none)) else (if 0 ≤ x5 then (if x5 < (x0.size : Int) then (if (bt x0 x5) = 32 then (if 0 ≤ x4 then (if x4 ≤ x5 then (if x3.length < 8796093022208 then (spec_l6Split.l0 k x0 (x3 ++ [x0.extract (x4 : Int).toNat (x5 : Int).toNat]) (wrap64 (x5 + 1)) (wrap64 (x5 + 1))) else (none)) else (none)) else (none)) else (spec_l6Split.l0 k x0 x3 x4 (wrap64 (x5 + 1)))) else (none)) else (none))) else (some x3)
def spec_l6Split.f (k : Nat) (a0 : ByteArray) : Option (List ByteArray) := spec_l6Split.l0 k a0 (([] : List ByteArray)) 0 0
set_option maxHeartbeats 8000000 in
set_option maxRecDepth 100000 in
theorem spec_l6Split.calls (k : Nat) (a0 : ByteArray) (r : List ByteArray) (w : World) (h : spec_l6Split.f k a0 = some r) :
  Calls Tryz.prog 170 #[.string a0] w fun e w' => ∃ v0_ : Value, e = .returned (v0_) ∧ Kd.R Kd.string 9 w' w.heap.size (fun _ => True) v0_ r ∧ Below w.heap.size w w' := by
 have HB := zK (Below.refl w.heap.size w)
 have H : (spec_l6Split.l0 k a0 (([] : List ByteArray)) 0 0) = some r := h
 clear h
 obtain ⟨y130, hy130⟩ : ∃ y_ : List ByteArray, y_ = (([] : List ByteArray)) := ⟨_, rfl⟩
 replace H : (spec_l6Split.l0 k a0 y130 0 0) = some r := by first | (rw [hy130]; with_reducible exact H) | (have H2_ := (Option.bind_some _ _).symm.trans H; rw [hy130]; with_reducible exact H2_) | (have H2_ := (Option.bind_some _ _).symm.trans H; with_reducible exact H2_) | with_reducible exact H | (rw [hy130]; exact H) | exact H
 have Ny130 := zK hy130
 clear hy130
 have H' := zK H
 clear H
 go_enter Tryz.func170, Tryz.ntmps170
 go_wp2_with (first | ((with_reducible refine gate_dst (N := 6) rfl ?_); refine Kd.R_lit Kd.string _ 9 ?hg (N := 6) ?hd (xs := ([] : List ByteArray)) (inner := []) (ok := fun _ => True) (okp := fun _ => True) ?hr ?hp (fun _ hk => hk) trivial (Below.refl _ _) (Nat.le_refl _) zq16 ?_; (case hd => rfl); (case hg => rfl); (case hr => first | (go_simp; done) | (go_simp; rfl)); (case hp => exact (Reps.none _ _)); intro v131 w2 ho3 hb hg_ hnew_; clear hg_ hnew_; (first | rw [← Ny130.out] at ho3 | (simp only [Int.reduceToNat] at ho3; rw [← Ny130.out] at ho3)); have n0_ := zK (Kd.R_lower ho3 (below_size zq0)); have n1_ := zK (below_step zq0 hb); clear HB; have HO132 := n0_; have HB := n1_; clear n0_ n1_; clear hb ho3))
 go_loopg [3, 4, 5] k (fun kq v3 v4 v5 w' => ∃ (x3_1 : List ByteArray) (x4_1 : Int) (x5_1 : Int), v4 = .int .i64 x4_1 ∧ v5 = .int .i64 x5_1 ∧ Aside0 (spec_l6Split.l0 kq a0 x3_1 x4_1 x5_1 = some r) ∧ Aside0 (kq ≤ k) ∧ Aside0 (Kd.R Kd.string 9 w' w.heap.size (fun _ => True) v3 x3_1) ∧ Aside0 (Below w.heap.size w w'))
 case atStart => exact ⟨(y130), (0), (0), zq4, zq4, H', ⟨Nat.le_refl _⟩, ⟨by (with_reducible repeat (first | apply zR | apply zV | apply zW)); exact HO132.out⟩, ⟨by repeat (first | (with_reducible first | exact HB.out | apply zA | apply zN | apply zD) | exact HB.out)⟩⟩
 case round =>
  clear H'
  try clear c1
  try clear p2
  obtain ⟨x3_1, x4_1, x5_1, rfl, rfl, HA, HK1, HO_3, HB⟩ := hrel
  cases gk with
  | zero => exact absurd HA.out (by simp [spec_l6Split.l0])
  | succ k1 =>
   have H := HA.out
   clear HA
   simp only [spec_l6Split.l0] at H
   by_cases c4 : x5_1 ≤ (a0.size : Int)
   ·
    rw [if_pos c4] at H
    have c4b0 : decide (x5_1 ≤ (a0.size : Int)) = true := decide_eq_true c4
    clear c4
    by_cases c5 : x5_1 = (a0.size : Int)
    ·
     rw [if_pos c5] at H
     have c5b0 : (x5_1 == (a0.size : Int)) = true := beq_iff_eq.mpr c5
     have c5b1 : (x5_1 != (a0.size : Int)) = false := bne_eq_false_iff_eq.mpr c5
     clear c5
     by_cases c6 : 0 ≤ x4_1
     ·
      rw [if_pos c6] at H
      have c6b0 := eq_true c6
      have c6b1 : decide (0 ≤ x4_1) = true := decide_eq_true c6
      clear c6
      by_cases c7 : x4_1 ≤ x5_1
      ·
       rw [if_pos c7] at H
       have c7b0 := eq_true c7
       have c7b1 : decide (x4_1 ≤ x5_1) = true := decide_eq_true c7
       clear c7
       have c8b0 := eq_true (zX zq2 : x5_1 ≤ (a0.size : Int))
       by_cases c9 : x3_1.length < 8796093022208
       ·
        rw [if_pos c9] at H
        have LMc9 := zK c9
        clear c9
        obtain ⟨y133, hy133⟩ : ∃ y_ : List ByteArray, y_ = (x3_1 ++ [a0.extract (x4_1 : Int).toNat (x5_1 : Int).toNat]) := ⟨_, rfl⟩
        replace H : (spec_l6Split.l0 k1 a0 y133 (wrap64 (x5_1 + 1)) (wrap64 (x5_1 + 1))) = some r := by first | (rw [hy133]; with_reducible exact H) | (have H2_ := (Option.bind_some _ _).symm.trans H; rw [hy133]; with_reducible exact H2_) | (have H2_ := (Option.bind_some _ _).symm.trans H; with_reducible exact H2_) | with_reducible exact H | (rw [hy133]; exact H) | exact H
        have Ny133 := zK hy133
        clear hy133
        have H' := zK H
        clear H
        go_wp2_with (first | ((with_reducible refine gate_builtin (b := .append) (xs := #[.tmp 23, .tmp 28]) rfl ?_); at_builtin; refine Kd.R_append Kd.string (w0 := w) w.heap.size rfl (.tmp 23) (.tmp 28) 46 9 (.string ⟨#[]⟩) 16 rfl Tryz.underlying46 info9 rfl zq13 zq7 u3 x3_1 (a0.extract (x4_1 : Int).toNat (x5_1 : Int).toNat) [.string (a0.extract (x4_1 : Int).toNat (x5_1 : Int).toNat)] (fun _ => True) (fun _ => False) rfl rfl ?aP (fun _ hk => hk.elim) ?aF ?aO ?aB ?aS ?aL ?_; (case aP => exact rfl); (case aB => exact zq0); (case aF => exact (fun _ _ => trivial)); (case aO => exact zq18); (case aS => exact (below_size zq0)); (case aL => have := LMc9.out; omega); intro v134 w10 ho hb hg hat; rw [← Ny133.out] at ho; have n0_ := zK (hb); have n1_ := zK (ho); clear HB; clear HO_3; have HB := n0_; have HO135 := n1_; clear n0_ n1_; clear ho hb hg hat))
        go_roundg k1
        case measure => have := HK1.out; omega
        case rel => exact ⟨(y133), (wrap64 (x5_1 + 1)), (wrap64 (x5_1 + 1)), zq4, zq4, H', ⟨by have := HK1.out; omega⟩, ⟨by (with_reducible repeat (first | apply zR | apply zV | apply zW)); exact HO135.out⟩, ⟨by repeat (first | (with_reducible first | exact HB.out | apply zA | apply zN | apply zD) | exact HB.out)⟩⟩
       rw [if_neg c9] at H
       exact absurd H zq16
      rw [if_neg c7] at H
      exact absurd H zq16
     rw [if_neg c6] at H
     exact absurd H zq16
    rw [if_neg c5] at H
    have c5b0 : (x5_1 == (a0.size : Int)) = false := beq_eq_false_iff_ne.mpr c5
    have c5b1 : (x5_1 != (a0.size : Int)) = true := bne_iff_ne.mpr c5
    by_cases c11 : 0 ≤ x5_1
    ·
     rw [if_pos c11] at H
     have c11b0 : decide (0 ≤ x5_1) = true := decide_eq_true c11
     clear c11
     by_cases c12 : x5_1 < (a0.size : Int)
     ·
      rw [if_pos c12] at H
      have c12b0 : decide (x5_1 < (a0.size : Int)) = true := decide_eq_true c12
      clear c12
      by_cases c14 : (bt a0 x5_1) = 32
      ·
       rw [if_pos c14] at H
       have c14b0 : ((bt a0 x5_1) == 32) = true := beq_iff_eq.mpr c14
       have c14b1 : ((bt a0 x5_1) != 32) = false := bne_eq_false_iff_eq.mpr c14
       clear c14
       by_cases c15 : 0 ≤ x4_1
       ·
        rw [if_pos c15] at H
        have c15b0 := eq_true c15
        have c15b1 : decide (0 ≤ x4_1) = true := decide_eq_true c15
        clear c15
        by_cases c16 : x4_1 ≤ x5_1
        ·
         rw [if_pos c16] at H
         have c16b0 := eq_true c16
         have c16b1 : decide (x4_1 ≤ x5_1) = true := decide_eq_true c16
         clear c16
         have c17b0 := eq_true (zX zq2 : x5_1 ≤ (a0.size : Int))
         by_cases c18 : x3_1.length < 8796093022208
         ·
          rw [if_pos c18] at H
          have LMc18 := zK c18
          clear c18
          obtain ⟨y136, hy136⟩ : ∃ y_ : List ByteArray, y_ = (x3_1 ++ [a0.extract (x4_1 : Int).toNat (x5_1 : Int).toNat]) := ⟨_, rfl⟩
          replace H : (spec_l6Split.l0 k1 a0 y136 (wrap64 (x5_1 + 1)) (wrap64 (x5_1 + 1))) = some r := by first | (rw [hy136]; with_reducible exact H) | (have H2_ := (Option.bind_some _ _).symm.trans H; rw [hy136]; with_reducible exact H2_) | (have H2_ := (Option.bind_some _ _).symm.trans H; with_reducible exact H2_) | with_reducible exact H | (rw [hy136]; exact H) | exact H
          have Ny136 := zK hy136
          clear hy136
          have H' := zK H
          clear H
          have p13 : 0 ≤ (x5_1 : Int) := zX zq2
          have q13 : x5_1 < (a0.size : Int) := zX zq2
          have hx13 := bt_at a0 x5_1
          replace p13 := eq_true p13
          replace q13 := eq_true q13
          go_wp2_with (first | ((with_reducible refine gate_builtin (b := .append) (xs := #[.tmp 23, .tmp 28]) rfl ?_); at_builtin; refine Kd.R_append Kd.string (w0 := w) w.heap.size rfl (.tmp 23) (.tmp 28) 46 9 (.string ⟨#[]⟩) 16 rfl Tryz.underlying46 info9 rfl zq13 zq7 u3 x3_1 (a0.extract (x4_1 : Int).toNat (x5_1 : Int).toNat) [.string (a0.extract (x4_1 : Int).toNat (x5_1 : Int).toNat)] (fun _ => True) (fun _ => False) rfl rfl ?aP (fun _ hk => hk.elim) ?aF ?aO ?aB ?aS ?aL ?_; (case aP => exact rfl); (case aB => exact zq0); (case aF => exact (fun _ _ => trivial)); (case aO => exact zq18); (case aS => exact (below_size zq0)); (case aL => have := LMc18.out; omega); intro v137 w19 ho hb hg hat; rw [← Ny136.out] at ho; have n0_ := zK (hb); have n1_ := zK (ho); clear HB; clear HO_3; have HB := n0_; have HO138 := n1_; clear n0_ n1_; clear ho hb hg hat))
          go_roundg k1
          case measure => have := HK1.out; omega
          case rel => exact ⟨(y136), (wrap64 (x5_1 + 1)), (wrap64 (x5_1 + 1)), zq4, zq4, H', ⟨by have := HK1.out; omega⟩, ⟨by (with_reducible repeat (first | apply zR | apply zV | apply zW)); exact HO138.out⟩, ⟨by repeat (first | (with_reducible first | exact HB.out | apply zA | apply zN | apply zD) | exact HB.out)⟩⟩
         rw [if_neg c18] at H
         exact absurd H zq16
        rw [if_neg c16] at H
        exact absurd H zq16
       rw [if_neg c15] at H
       exact absurd H zq16
      rw [if_neg c14] at H
      have c14b0 : ((bt a0 x5_1) == 32) = false := beq_eq_false_iff_ne.mpr c14
      have c14b1 : ((bt a0 x5_1) != 32) = true := bne_iff_ne.mpr c14
      have H' := zK H
      clear H
      have p13 : 0 ≤ (x5_1 : Int) := zX zq2
      have q13 : x5_1 < (a0.size : Int) := zX zq2
      have hx13 := bt_at a0 x5_1
      replace p13 := eq_true p13
      replace q13 := eq_true q13
      go_wp2
      go_roundg k1
      case measure => have := HK1.out; omega
      case rel => exact ⟨(x3_1), (x4_1), (wrap64 (x5_1 + 1)), zq4, zq4, H', ⟨by have := HK1.out; omega⟩, ⟨by (with_reducible repeat (first | apply zR | apply zV | apply zW)); exact HO_3.out⟩, ⟨by repeat (first | (with_reducible first | exact HB.out | apply zA | apply zN | apply zD) | exact HB.out)⟩⟩
     rw [if_neg c12] at H
     exact absurd H zq16
    rw [if_neg c11] at H
    exact absurd H zq16
   rw [if_neg c4] at H
   have c4b0 : decide (x5_1 ≤ (a0.size : Int)) = false := decide_eq_false c4
   clear c4
   obtain rfl := Option.some.inj H
   go_wp2
   go_ret
   exact ⟨_, zq5, zq18, zq0⟩
def spec_l6Unline.f (a0 : ByteArray) : Option (ByteArray × Bool) := if (a0.size : Int) = 0 then (some ((⟨#[]⟩ : ByteArray), false)) else (if 0 ≤ (wrap64 ((a0.size : Int) - 1)) then (if (wrap64 ((a0.size : Int) - 1)) < (a0.size : Int) then (if (bt a0 (wrap64 ((a0.size : Int) - 1))) = 10 then (if (wrap64 ((a0.size : Int) - 1)) ≤ (a0.size : Int) then (some (a0.extract 0 ((wrap64 ((a0.size : Int) - 1)) : Int).toNat, true)) else (none)) else (some ((⟨#[]⟩ : ByteArray), false))) else (none)) else (none))
set_option maxHeartbeats 8000000 in
set_option maxRecDepth 100000 in
theorem spec_l6Unline.calls (a0 : ByteArray) (r1 : ByteArray) (r2 : Bool) (w : World) (h : spec_l6Unline.f a0 = some (r1, r2)) :
  Calls Tryz.prog 169 #[.string a0] w fun e w' => e = .returned (.tuple #[.string r1, .bool r2]) ∧ Drawn0 w w' := by
 have H : (if (a0.size : Int) = 0 then (some ((⟨#[]⟩ : ByteArray), false)) else (if 0 ≤ (wrap64 ((a0.size : Int) - 1)) then (if (wrap64 ((a0.size : Int) - 1)) < (a0.size : Int) then (if (bt a0 (wrap64 ((a0.size : Int) - 1))) = 10 then (if (wrap64 ((a0.size : Int) - 1)) ≤ (a0.size : Int) then (some (a0.extract 0 ((wrap64 ((a0.size : Int) - 1)) : Int).toNat, true)) else (none)) else (some ((⟨#[]⟩ : ByteArray), false))) else (none)) else (none))) = some (r1, r2) := h
 clear h
 by_cases c2 : (a0.size : Int) = 0
 ·
  rw [if_pos c2] at H
  have c2b0 : ((a0.size : Int) == 0) = true := beq_iff_eq.mpr c2
  have c2b1 : ((a0.size : Int) != 0) = false := bne_eq_false_iff_eq.mpr c2
  clear c2
  simp only [Option.some.injEq, Prod.mk.injEq] at H
  obtain ⟨rfl, rfl⟩ := H
  go_enter Tryz.func169, Tryz.ntmps169
  go_wp2
  go_ret2
  exact ⟨zq4, zq6⟩
 rw [if_neg c2] at H
 have c2b0 : ((a0.size : Int) == 0) = false := beq_eq_false_iff_ne.mpr c2
 have c2b1 : ((a0.size : Int) != 0) = true := bne_iff_ne.mpr c2
 obtain ⟨ji3, hji3⟩ : ∃ j_ : Int, (wrap64 ((a0.size : Int) - 1)) = j_ := ⟨_, rfl⟩
 replace H : (if 0 ≤ (ji3) then (if (ji3) < (a0.size : Int) then (if (bt a0 (ji3)) = 10 then (if (ji3) ≤ (a0.size : Int) then (some (a0.extract 0 ((ji3) : Int).toNat, true)) else (none)) else (some ((⟨#[]⟩ : ByteArray), false))) else (none)) else (none)) = some (r1, r2) := by first | (rw [hji3] at H; exact H) | (simp only [hji3] at H ⊢; exact H)
 have hji3w : (IntKind.i64.wrap ((a0.size : Int) - 1)) = ji3 := (i64_w _).trans hji3
 by_cases c4 : 0 ≤ (ji3)
 ·
  rw [if_pos c4] at H
  have c4b0 : decide (0 ≤ (ji3)) = true := decide_eq_true c4
  clear c4
  by_cases c5 : (ji3) < (a0.size : Int)
  ·
   rw [if_pos c5] at H
   have c5b0 : decide ((ji3) < (a0.size : Int)) = true := decide_eq_true c5
   clear c5
   by_cases c7 : (bt a0 (ji3)) = 10
   ·
    rw [if_pos c7] at H
    have c7b0 : ((bt a0 (ji3)) == 10) = true := beq_iff_eq.mpr c7
    have c7b1 : ((bt a0 (ji3)) != 10) = false := bne_eq_false_iff_eq.mpr c7
    clear c7
    have c8b0 := eq_true (zX zq2 : 0 ≤ (ji3))
    by_cases c9 : (ji3) ≤ (a0.size : Int)
    ·
     rw [if_pos c9] at H
     have c9b0 := eq_true c9
     have c9b1 : decide ((ji3) ≤ (a0.size : Int)) = true := decide_eq_true c9
     clear c9
     simp only [Option.some.injEq, Prod.mk.injEq] at H
     obtain ⟨rfl, rfl⟩ := H
     have p6 : 0 ≤ ((ji3) : Int) := zX zq2
     have q6 : (ji3) < (a0.size : Int) := zX zq2
     have hx6 := bt_at a0 (ji3)
     replace p6 := eq_true p6
     replace q6 := eq_true q6
     go_enter Tryz.func169, Tryz.ntmps169
     go_wp2
     go_ret2
     exact ⟨(by first | rfl | (simp; done) | (simp only [← hji3] <;> (first | rfl | simp)) | (simp [*]; done)), zq6⟩
    rw [if_neg c9] at H
    exact absurd H zq16
   rw [if_neg c7] at H
   have c7b0 : ((bt a0 (ji3)) == 10) = false := beq_eq_false_iff_ne.mpr c7
   have c7b1 : ((bt a0 (ji3)) != 10) = true := bne_iff_ne.mpr c7
   simp only [Option.some.injEq, Prod.mk.injEq] at H
   obtain ⟨rfl, rfl⟩ := H
   have p6 : 0 ≤ ((ji3) : Int) := zX zq2
   have q6 : (ji3) < (a0.size : Int) := zX zq2
   have hx6 := bt_at a0 (ji3)
   replace p6 := eq_true p6
   replace q6 := eq_true q6
   go_enter Tryz.func169, Tryz.ntmps169
   go_wp2
   go_ret2
   exact ⟨(by first | rfl | (simp; done) | (simp only [← hji3] <;> (first | rfl | simp)) | (simp [*]; done)), zq6⟩
  rw [if_neg c5] at H
  exact absurd H zq16
 rw [if_neg c4] at H
 exact absurd H zq16
def stringslite_HasSuffix.f (a0 : ByteArray) (a1 : ByteArray) : Option (Bool) := if (a0.size : Int) ≥ (a1.size : Int) then (if 0 ≤ (wrap64 ((a0.size : Int) - (a1.size : Int))) then (if (wrap64 ((a0.size : Int) - (a1.size : Int))) ≤ (a0.size : Int) then (some ((a0.extract ((wrap64 ((a0.size : Int) - (a1.size : Int))) : Int).toNat a0.size).toList == a1.toList)) else (none)) else (none)) else (some false)
set_option maxHeartbeats 8000000 in
set_option maxRecDepth 100000 in
theorem stringslite_HasSuffix.calls (a0 : ByteArray) (a1 : ByteArray) (r : Bool) (w : World) (h : stringslite_HasSuffix.f a0 a1 = some r) :
  Calls Tryz.prog 272 #[.string a0, .string a1] w fun e w' => e = .returned (.bool r) ∧ Drawn0 w w' := by
 have H : (if (a0.size : Int) ≥ (a1.size : Int) then (if 0 ≤ (wrap64 ((a0.size : Int) - (a1.size : Int))) then (if (wrap64 ((a0.size : Int) - (a1.size : Int))) ≤ (a0.size : Int) then (some ((a0.extract ((wrap64 ((a0.size : Int) - (a1.size : Int))) : Int).toNat a0.size).toList == a1.toList)) else (none)) else (none)) else (some false)) = some r := h
 clear h
 by_cases c3 : (a0.size : Int) ≥ (a1.size : Int)
 ·
  rw [if_pos c3] at H
  have c3b0 : decide ((a1.size : Int) ≤ (a0.size : Int)) = true := decide_eq_true c3
  have c3b1 : decide (a1.size ≤ a0.size) = true := decide_eq_true (Int.ofNat_le.mp c3)
  clear c3
  obtain ⟨ji4, hji4⟩ : ∃ j_ : Int, (wrap64 ((a0.size : Int) - (a1.size : Int))) = j_ := ⟨_, rfl⟩
  replace H : (if 0 ≤ (ji4) then (if (ji4) ≤ (a0.size : Int) then (some ((a0.extract ((ji4) : Int).toNat a0.size).toList == a1.toList)) else (none)) else (none)) = some r := by first | (rw [hji4] at H; exact H) | (simp only [hji4] at H ⊢; exact H)
  have hji4w : (IntKind.i64.wrap ((a0.size : Int) - (a1.size : Int))) = ji4 := (i64_w _).trans hji4
  by_cases c5 : 0 ≤ (ji4)
  ·
   rw [if_pos c5] at H
   have c5b0 := eq_true c5
   have c5b1 : decide (0 ≤ (ji4)) = true := decide_eq_true c5
   clear c5
   by_cases c6 : (ji4) ≤ (a0.size : Int)
   ·
    rw [if_pos c6] at H
    have c6b0 := eq_true c6
    have c6b1 : decide ((ji4) ≤ (a0.size : Int)) = true := decide_eq_true c6
    clear c6
    obtain rfl := Option.some.inj H
    go_enter Tryz.func272, Tryz.ntmps272
    go_wp2
    go_ret
    exact ⟨(by first | rfl | (simp; done) | (simp only [← hji4] <;> (first | rfl | simp)) | (simp [*]; done)), zq6⟩
   rw [if_neg c6] at H
   exact absurd H zq16
  rw [if_neg c5] at H
  exact absurd H zq16
 rw [if_neg c3] at H
 have c3b0 : decide ((a1.size : Int) ≤ (a0.size : Int)) = false := decide_eq_false c3
 have c3b1 : decide (a1.size ≤ a0.size) = false := decide_eq_false (fun h => c3 (Int.ofNat_le.mpr h))
 clear c3
 obtain rfl := Option.some.inj H
 go_enter Tryz.func272, Tryz.ntmps272
 go_wp2
 go_ret
 exact ⟨zq4, zq6⟩
def stringslite_TrimSuffix.f (a0 : ByteArray) (a1 : ByteArray) : Option (ByteArray) := (stringslite_HasSuffix.f a0 a1).bind fun t237 => (if t237 = true then (if 0 ≤ (wrap64 ((a0.size : Int) - (a1.size : Int))) then (if (wrap64 ((a0.size : Int) - (a1.size : Int))) ≤ (a0.size : Int) then (some (a0.extract 0 ((wrap64 ((a0.size : Int) - (a1.size : Int))) : Int).toNat)) else (none)) else (none)) else (some a0))
set_option maxHeartbeats 8000000 in
set_option maxRecDepth 100000 in
theorem stringslite_TrimSuffix.calls (a0 : ByteArray) (a1 : ByteArray) (r : ByteArray) (w : World) (h : stringslite_TrimSuffix.f a0 a1 = some r) :
  Calls Tryz.prog 234 #[.string a0, .string a1] w fun e w' => e = .returned (.string r) ∧ Drawn0 w w' := by
 have H : ((stringslite_HasSuffix.f a0 a1).bind fun t237 => (if t237 = true then (if 0 ≤ (wrap64 ((a0.size : Int) - (a1.size : Int))) then (if (wrap64 ((a0.size : Int) - (a1.size : Int))) ≤ (a0.size : Int) then (some (a0.extract 0 ((wrap64 ((a0.size : Int) - (a1.size : Int))) : Int).toNat)) else (none)) else (none)) else (some a0))) = some r := h
 clear h
 replace H := Option.bind_eq_some_iff.mp H
 obtain ⟨t237, A30, H⟩ := H
 replace H : (if t237 = true then (if 0 ≤ (wrap64 ((a0.size : Int) - (a1.size : Int))) then (if (wrap64 ((a0.size : Int) - (a1.size : Int))) ≤ (a0.size : Int) then (some (a0.extract 0 ((wrap64 ((a0.size : Int) - (a1.size : Int))) : Int).toNat)) else (none)) else (none)) else (some a0)) = some r := H
 have A3 := zK A30
 clear A30
 by_cases c4 : t237 = true
 ·
  subst c4
  have H1 : (if 0 ≤ (wrap64 ((a0.size : Int) - (a1.size : Int))) then (if (wrap64 ((a0.size : Int) - (a1.size : Int))) ≤ (a0.size : Int) then (some (a0.extract 0 ((wrap64 ((a0.size : Int) - (a1.size : Int))) : Int).toNat)) else (none)) else (none)) = some r := by rw [if_pos rfl] at H; exact H
  clear H
  have H := H1
  clear H1
  obtain ⟨ji5, hji5⟩ : ∃ j_ : Int, (wrap64 ((a0.size : Int) - (a1.size : Int))) = j_ := ⟨_, rfl⟩
  replace H : (if 0 ≤ (ji5) then (if (ji5) ≤ (a0.size : Int) then (some (a0.extract 0 ((ji5) : Int).toNat)) else (none)) else (none)) = some r := by first | (rw [hji5] at H; exact H) | (simp only [hji5] at H ⊢; exact H)
  (try rw [hji5] at A3)
  have hji5w : (IntKind.i64.wrap ((a0.size : Int) - (a1.size : Int))) = ji5 := (i64_w _).trans hji5
  by_cases c6 : 0 ≤ (ji5)
  ·
   rw [if_pos c6] at H
   have c6b0 := eq_true c6
   have c6b1 : decide (0 ≤ (ji5)) = true := decide_eq_true c6
   clear c6
   by_cases c7 : (ji5) ≤ (a0.size : Int)
   ·
    rw [if_pos c7] at H
    have c7b0 := eq_true c7
    have c7b1 : decide ((ji5) ≤ (a0.size : Int)) = true := decide_eq_true c7
    clear c7
    obtain rfl := Option.some.inj H
    go_enter Tryz.func234, Tryz.ntmps234
    go_wp2_with (first | ((with_reducible refine gate_callee (f := 272) rfl ?_); refine goesL_ (some 7) rfl rfl Tryz.func272 zq3 rfl #[.string a0, .string a1] rfl zq1 ?_; (with_reducible refine (stringslite_HasSuffix.calls a0 a1 true _ A3.out).mono ?_); rintro e w' ⟨rfl, ⟨nd, rfl⟩⟩; refine ⟨_, rfl, ?_⟩))
    go_ret
    exact ⟨(by first | rfl | (simp; done) | (simp only [← hji5] <;> (first | rfl | simp)) | (simp [*]; done)), zq6⟩
   rw [if_neg c7] at H
   exact absurd H zq16
  rw [if_neg c6] at H
  exact absurd H zq16
 replace c4 := Bool.eq_false_iff.mpr c4
 subst c4
 have H1 : (some a0) = some r := by rw [if_neg (show ¬ (false = true) by decide)] at H; exact H
 clear H
 have H := H1
 clear H1
 obtain rfl := Option.some.inj H
 go_enter Tryz.func234, Tryz.ntmps234
 go_wp2_with (first | ((with_reducible refine gate_callee (f := 272) rfl ?_); refine goesL_ (some 7) rfl rfl Tryz.func272 zq3 rfl #[.string a0, .string a1] rfl zq1 ?_; (with_reducible refine (stringslite_HasSuffix.calls a0 a1 false _ A3.out).mono ?_); rintro e w' ⟨rfl, ⟨nd, rfl⟩⟩; refine ⟨_, rfl, ?_⟩))
 go_ret
 exact ⟨zq4, zq6⟩
def strings_TrimSuffix.f (a0 : ByteArray) (a1 : ByteArray) : Option (ByteArray) := (stringslite_TrimSuffix.f a0 a1).bind fun t238 => (some t238)
set_option maxHeartbeats 8000000 in
set_option maxRecDepth 100000 in
theorem strings_TrimSuffix.calls (a0 : ByteArray) (a1 : ByteArray) (r : ByteArray) (w : World) (h : strings_TrimSuffix.f a0 a1 = some r) :
  Calls Tryz.prog 176 #[.string a0, .string a1] w fun e w' => e = .returned (.string r) ∧ Drawn0 w w' := by
 have H : ((stringslite_TrimSuffix.f a0 a1).bind fun t238 => (some t238)) = some r := h
 clear h
 replace H := Option.bind_eq_some_iff.mp H
 obtain ⟨t238, A30, H⟩ := H
 replace H : (some t238) = some r := H
 have A3 := zK A30
 clear A30
 obtain rfl := Option.some.inj H
 go_enter Tryz.func176, Tryz.ntmps176
 go_wp2_with (first | ((with_reducible refine gate_callee (f := 234) rfl ?_); refine goesL_ (some 7) rfl rfl Tryz.func234 zq3 rfl #[.string a0, .string a1] rfl zq1 ?_; (with_reducible refine (stringslite_TrimSuffix.calls a0 a1 t238 _ A3.out).mono ?_); rintro e w' ⟨rfl, ⟨nd, rfl⟩⟩; refine ⟨_, rfl, ?_⟩))
 go_ret
 exact ⟨zq4, zq6⟩
def slices_Index_string_string.l0 : Nat → List ByteArray → ByteArray → Int → Int → Option (Int)
 | 0, _, _, _, _ => none
 | k + 1, x0, x1, x7, x8 => if x8 < x7 then (if 0 ≤ x8 then (if x8 < (x0.length : Int) then (if x1.toList = (rdOf ByteArray.empty x0 x8).toList then (some x8) else (slices_Index_string_string.l0 k x0 x1 x7 (wrap64 (x8 + 1)))) else (none)) else (none)) else (some (-1))
def slices_Index_string_string.f (k : Nat) (l0 : List ByteArray) (a1 : ByteArray) : Option (Int) := slices_Index_string_string.l0 k l0 a1 (l0.length : Int) 0
set_option maxHeartbeats 8000000 in
set_option maxRecDepth 100000 in
theorem slices_Index_string_string.calls (k : Nat) (A0 : Option Addr) (c0 : Nat) (l0 : List ByteArray) (a1 : ByteArray) (r : Int) (w : World) (hr0 : Kd.C Kd.string w A0 l0.length l0) (hc0 : l0.length ≤ c0) (h : slices_Index_string_string.f k l0 a1 = some r) :
  Calls Tryz.prog 211 #[.slice A0 l0.length c0, .string a1] w fun e w' => e = .returned (.int .i64 r) ∧ Drawn0 w w' := by
 have HR0 := zK hr0
 have HC0 := zK hc0
 clear hr0 hc0
 have H : (slices_Index_string_string.l0 k l0 a1 (l0.length : Int) 0) = some r := h
 clear h
 have H' := zK H
 clear H
 go_enter Tryz.func211, Tryz.ntmps211
 go_wp2
 go_loopg [8] k (fun kq v8 w' => ∃ (x8_1 : Int), v8 = .int .i64 x8_1 ∧ Aside0 (slices_Index_string_string.l0 kq l0 a1 (l0.length : Int) x8_1 = some r) ∧ Aside0 (kq ≤ k) ∧ Drawn0 w w')
 case atStart => exact ⟨(0), zq4, H', ⟨Nat.le_refl _⟩, by repeat (first | exact Drawn0.refl _ | apply Drawn0.step)⟩
 case round =>
  clear H'
  try clear c2
  try clear p2
  obtain ⟨x8_1, rfl, HA, HK1, ⟨m1, rfl⟩⟩ := hrel
  cases gk with
  | zero => exact absurd HA.out (by simp [slices_Index_string_string.l0])
  | succ k1 =>
   have H := HA.out
   clear HA
   simp only [slices_Index_string_string.l0] at H
   by_cases c3 : x8_1 < (l0.length : Int)
   ·
    rw [if_pos c3] at H
    have c3b0 : decide (x8_1 < (l0.length : Int)) = true := decide_eq_true c3
    clear c3
    by_cases c4 : 0 ≤ x8_1
    ·
     rw [if_pos c4] at H
     have c4b0 : decide (0 ≤ x8_1) = true := decide_eq_true c4
     clear c4
     by_cases c5 : x8_1 < (l0.length : Int)
     ·
      rw [if_pos c5] at H
      have c5b0 : decide (x8_1 < (l0.length : Int)) = true := decide_eq_true c5
      clear c5
      by_cases c6 : a1.toList = (rdOf ByteArray.empty l0 x8_1).toList
      ·
       rw [if_pos c6] at H
       have c6b0 : (a1.toList == (rdOf ByteArray.empty l0 x8_1).toList) = true := beq_iff_eq.mpr c6
       have c6b1 : (a1.toList != (rdOf ByteArray.empty l0 x8_1).toList) = false := bne_eq_false_iff_eq.mpr c6
       clear c6
       obtain rfl := Option.some.inj H
       have p239 : 0 ≤ (x8_1 : Int) := zX zq2
       have q239 : x8_1 < (l0.length : Int) := zX zq2
       obtain ⟨ad239, e239, hx239_0⟩ := Kd.at_string HR0.out x8_1 p239 q239
       cases e239
       replace p239 := eq_true p239
       replace q239 := eq_true q239
       go_wp2
       go_ret
       exact ⟨zq4, zq6⟩
      rw [if_neg c6] at H
      have c6b0 : (a1.toList == (rdOf ByteArray.empty l0 x8_1).toList) = false := beq_eq_false_iff_ne.mpr c6
      have c6b1 : (a1.toList != (rdOf ByteArray.empty l0 x8_1).toList) = true := bne_iff_ne.mpr c6
      have H' := zK H
      clear H
      have p239 : 0 ≤ (x8_1 : Int) := zX zq2
      have q239 : x8_1 < (l0.length : Int) := zX zq2
      obtain ⟨ad239, e239, hx239_0⟩ := Kd.at_string HR0.out x8_1 p239 q239
      cases e239
      replace p239 := eq_true p239
      replace q239 := eq_true q239
      go_wp2
      go_roundg k1
      case measure => have := HK1.out; omega
      case rel => exact ⟨(wrap64 (x8_1 + 1)), zq4, H', ⟨by have := HK1.out; omega⟩, by repeat (first | exact Drawn0.refl _ | apply Drawn0.step)⟩
     rw [if_neg c5] at H
     exact absurd H zq16
    rw [if_neg c4] at H
    exact absurd H zq16
   rw [if_neg c3] at H
   have c3b0 : decide (x8_1 < (l0.length : Int)) = false := decide_eq_false c3
   clear c3
   obtain rfl := Option.some.inj H
   go_wp2
   go_ret
   exact ⟨zq4, zq6⟩
def impl_modeOf.f (k : Nat) (a0 : ByteArray) : Option (Int) := (slices_Index_string_string.f k (([(⟨#[102, 105, 108, 101]⟩ : ByteArray), (⟨#[114, 117, 110]⟩ : ByteArray), (⟨#[116, 114, 101, 101]⟩ : ByteArray)] : List ByteArray)) a0).bind fun t243 => (some (wrap64 (t243 + 1)))
set_option maxHeartbeats 8000000 in
set_option maxRecDepth 100000 in
theorem impl_modeOf.calls (k : Nat) (a0 : ByteArray) (r : Int) (w : World) (h : impl_modeOf.f k a0 = some r) :
  Calls Tryz.prog 177 #[.string a0] w fun e w' => e = .returned (.int .i64 r) ∧ Below w.heap.size w w' := by
 have HB := zK (Below.refl w.heap.size w)
 have H : ((slices_Index_string_string.f k (([(⟨#[102, 105, 108, 101]⟩ : ByteArray), (⟨#[114, 117, 110]⟩ : ByteArray), (⟨#[116, 114, 101, 101]⟩ : ByteArray)] : List ByteArray)) a0).bind fun t243 => (some (wrap64 (t243 + 1)))) = some r := h
 clear h
 obtain ⟨y240, hy240⟩ : ∃ y_ : List ByteArray, y_ = (([(⟨#[102, 105, 108, 101]⟩ : ByteArray), (⟨#[114, 117, 110]⟩ : ByteArray), (⟨#[116, 114, 101, 101]⟩ : ByteArray)] : List ByteArray)) := ⟨_, rfl⟩
 replace H : ((slices_Index_string_string.f k y240 a0).bind fun t243 => (some (wrap64 (t243 + 1)))) = some r := by first | (rw [hy240]; with_reducible exact H) | (have H2_ := (Option.bind_some _ _).symm.trans H; rw [hy240]; with_reducible exact H2_) | (have H2_ := (Option.bind_some _ _).symm.trans H; with_reducible exact H2_) | with_reducible exact H | (rw [hy240]; exact H) | exact H
 have Ny240 := zK hy240
 clear hy240
 replace H := Option.bind_eq_some_iff.mp H
 obtain ⟨t243, A20, H⟩ := H
 replace H : (some (wrap64 (t243 + 1))) = some r := H
 have A2 := zK A20
 clear A20
 obtain rfl := Option.some.inj H
 go_enter Tryz.func177, Tryz.ntmps177
 go_wp2_with (first | ((with_reducible refine gate_dst (N := 3) rfl ?_); refine Kd.R_lit Kd.string _ 9 ?hg (N := 3) ?hd (xs := ([(⟨#[102, 105, 108, 101]⟩ : ByteArray), (⟨#[114, 117, 110]⟩ : ByteArray), (⟨#[116, 114, 101, 101]⟩ : ByteArray)] : List ByteArray)) (inner := [.string (⟨#[102, 105, 108, 101]⟩ : ByteArray), .string (⟨#[114, 117, 110]⟩ : ByteArray), .string (⟨#[116, 114, 101, 101]⟩ : ByteArray)]) (ok := fun _ => True) (okp := fun _ => True) ?hr ?hp (fun _ hk => hk) trivial (Below.refl _ _) (Nat.le_refl _) zq16 ?_; (case hd => rfl); (case hg => rfl); (case hr => first | (go_simp; done) | (go_simp; rfl)); (case hp => exact (Reps.one (show Kd.M Kd.string _ _ _ (⟨#[102, 105, 108, 101]⟩ : ByteArray) [.string (⟨#[102, 105, 108, 101]⟩ : ByteArray)] from rfl) (Reps.one (show Kd.M Kd.string _ _ _ (⟨#[114, 117, 110]⟩ : ByteArray) [.string (⟨#[114, 117, 110]⟩ : ByteArray)] from rfl) (Reps.one (show Kd.M Kd.string _ _ _ (⟨#[116, 114, 101, 101]⟩ : ByteArray) [.string (⟨#[116, 114, 101, 101]⟩ : ByteArray)] from rfl) (Reps.none _ _))))); intro v241 w3 ho4 hb hg_ hnew_; clear hg_ hnew_; (first | rw [← Ny240.out] at ho4 | (simp only [Int.reduceToNat] at ho4; rw [← Ny240.out] at ho4)); have n0_ := zK (Kd.R_lower ho4 (below_size zq0)); have n1_ := zK (below_step zq0 hb); clear HB; have HO242 := n0_; have HB := n1_; clear n0_ n1_; clear hb ho4; obtain ⟨Ao5, co5, eo5⟩ := Kd.R_slice HO242.out; subst eo5) | ((with_reducible refine gate_callee (f := 211) rfl ?_); refine goesL_ (some 5) rfl rfl Tryz.func211 zq3 rfl #[.slice Ao5 y240.length co5, .string a0] rfl zq1 ?_; (with_reducible refine (slices_Index_string_string.calls k _ _ y240 a0 t243 _ ?side1 ?side2 A2.out).mono ?_); (case side1 => repeat (first | exact (Kd.R_reads' HO242.out).2.2 | (with_reducible refine Kd.C_alloc ?_ _) | (with_reducible refine Kd.C_drewN ?_ _) | (with_reducible refine Kd.C_drew ?_))); (case side2 => exact (Kd.R_reads' HO242.out).2.1); rintro e w' ⟨rfl, ⟨nd, rfl⟩⟩; refine ⟨_, rfl, ?_⟩))
 go_ret
 exact ⟨zq5, zq0⟩
def laws_markText.l0 : Nat → Int → ByteArray → Option (ByteArray)
 | 0, _, _ => none
 | k + 1, x0, x3 => if x0 > 0 then ((some (([(wrap64 (48 + (Int.tmod x0 10))) % 256] : List Int) : List Int)).bind fun y311 => (if (strOfNums y311).size + x3.size ≤ 9223372036854775807 then (laws_markText.l0 k (wrap64 (Int.tdiv x0 10)) ((strOfNums y311) ++ x3)) else (none))) else (if 1 + x3.size ≤ 9223372036854775807 then (some ((⟨#[109]⟩ : ByteArray) ++ x3)) else (none))
def laws_markText.f (k : Nat) (a0 : Int) : Option (ByteArray) := if a0 ≤ 0 then (some (⟨#[109, 48]⟩ : ByteArray)) else (laws_markText.l0 k a0 (⟨#[]⟩ : ByteArray))
theorem laws_markText.mono_l : ∀ k, (∀ y0 y1, LeO (laws_markText.l0 k y0 y1) (laws_markText.l0 (k + 1) y0 y1))
 | 0 => fun _ _ r h => by simp [laws_markText.l0] at h
 | k + 1 => by
  have ih0 := laws_markText.mono_l k
  intro y0 y1
  unfold laws_markText.l0
  repeat' first
  | (with_reducible exact ih0 _ _)
  | (with_reducible exact LeO.refl _)
  | (with_reducible exact LeO.none _)
  | (with_reducible refine LeO.ite ?_ ?_)
  | (with_reducible refine LeO.bind ?_ (fun _ => ?_))
  | exact ih0 _ _
  | exact LeO.none _
  | refine LeO.ite ?_ ?_
  | refine LeO.bind ?_ (fun _ => ?_)
theorem laws_markText.mono : ∀ a0 k, LeO (laws_markText.f k a0) (laws_markText.f (k + 1) a0) := by
 intro a0 k
 have ih0 := laws_markText.mono_l k
 unfold laws_markText.f
 repeat' first
   | (with_reducible exact ih0 _ _)
   | (with_reducible exact LeO.refl _)
   | (with_reducible exact LeO.none _)
   | (with_reducible refine LeO.ite ?_ ?_)
   | (with_reducible refine LeO.bind ?_ (fun _ => ?_))
   | exact ih0 _ _
   | exact LeO.none _
   | refine LeO.ite ?_ ?_
   | refine LeO.bind ?_ (fun _ => ?_)
set_option maxHeartbeats 8000000 in
set_option maxRecDepth 100000 in
theorem laws_markText.calls (k : Nat) (a0 : Int) (r : ByteArray) (w : World) (h : laws_markText.f k a0 = some r) :
  Calls Tryz.prog 46 #[.int .i64 a0] w fun e w' => e = .returned (.string r) ∧ Below w.heap.size w w' := by
 have HB := zK (Below.refl w.heap.size w)
 have H : (if a0 ≤ 0 then (some (⟨#[109, 48]⟩ : ByteArray)) else (laws_markText.l0 k a0 (⟨#[]⟩ : ByteArray))) = some r := h
 clear h
 by_cases c2 : a0 ≤ 0
 ·
  rw [if_pos c2] at H
  have c2b0 : decide (a0 ≤ 0) = true := decide_eq_true c2
  clear c2
  obtain rfl := Option.some.inj H
  go_enter Tryz.func46, Tryz.ntmps46
  go_wp2
  go_ret
  exact ⟨zq5, zq0⟩
 rw [if_neg c2] at H
 have c2b0 : decide (a0 ≤ 0) = false := decide_eq_false c2
 clear c2
 have H' := zK H
 clear H
 go_enter Tryz.func46, Tryz.ntmps46
 go_wp2
 go_loopg [0, 3] k (fun kq v0 v3 w' => ∃ (x0_1 : Int) (x3_1 : ByteArray), v0 = .int .i64 x0_1 ∧ v3 = .string x3_1 ∧ Aside0 (laws_markText.l0 kq x0_1 x3_1 = some r) ∧ Aside0 (kq ≤ k) ∧ Aside0 (Below w.heap.size w w'))
 case atStart => exact ⟨(a0), ((⟨#[]⟩ : ByteArray)), zq4, zq4, H', ⟨Nat.le_refl _⟩, ⟨by repeat (first | (with_reducible first | exact HB.out | apply zA | apply zN | apply zD) | exact HB.out)⟩⟩
 case round =>
  clear H'
  try clear c2
  try clear c2b0
  try clear p2
  obtain ⟨x0_1, x3_1, rfl, rfl, HA, HK1, HB⟩ := hrel
  cases gk with
  | zero => exact absurd HA.out (by simp [laws_markText.l0])
  | succ k1 =>
   have H := HA.out
   clear HA
   simp only [laws_markText.l0] at H
   by_cases c3 : x0_1 > 0
   ·
    rw [if_pos c3] at H
    have c3b0 : decide (0 < x0_1) = true := decide_eq_true c3
    clear c3
    obtain ⟨y311, hy311⟩ : ∃ y_ : List Int, y_ = (([(wrap64 (48 + (Int.tmod x0_1 10))) % 256] : List Int)) := ⟨_, rfl⟩
    replace H : (if (strOfNums y311).size + x3_1.size ≤ 9223372036854775807 then (laws_markText.l0 k1 (wrap64 (Int.tdiv x0_1 10)) ((strOfNums y311) ++ x3_1)) else (none)) = some r := by first | (rw [hy311]; with_reducible exact H) | (have H2_ := (Option.bind_some _ _).symm.trans H; rw [hy311]; with_reducible exact H2_) | (have H2_ := (Option.bind_some _ _).symm.trans H; with_reducible exact H2_) | with_reducible exact H | (rw [hy311]; exact H) | exact H
    have Ny311 := zK hy311
    clear hy311
    by_cases c4 : (strOfNums y311).size + x3_1.size ≤ 9223372036854775807
    ·
     rw [if_pos c4] at H
     have c4b0 := eq_true c4
     have c4b1 : decide ((strOfNums y311).size + x3_1.size ≤ 9223372036854775807) = true := decide_eq_true c4
     try have c4b2 : (9223372036854775807 < (strOfNums y311).size + x3_1.size) = False := eq_false (Nat.not_lt.2 c4)
     have H' := zK H
     clear H
     go_wp2_with (first | ((with_reducible refine gate_dst (N := 12) rfl ?_); refine Kd.R_lit (Kd.int .u8) _ 5 ?hg (N := 12) ?hd (xs := ([(wrap64 (48 + (Int.tmod x0_1 10))) % 256] : List Int)) (inner := [.int .u8 ((wrap64 (48 + (Int.tmod x0_1 10))) % 256)]) (ok := fun _ => True) (okp := fun _ => True) ?hr ?hp (fun _ hk => hk) trivial (Below.refl _ _) (Nat.le_refl _) zq16 ?_; (case hd => rfl); (case hg => rfl); (case hr => first | (go_simp; done) | (go_simp; rfl)); (case hp => exact (Reps.one (show Kd.M (Kd.int .u8) _ _ _ ((wrap64 (48 + (Int.tmod x0_1 10))) % 256) [.int .u8 ((wrap64 (48 + (Int.tmod x0_1 10))) % 256)] from rfl) (Reps.none _ _))); intro v312 w5 ho6 hb hg_ hnew_; clear hg_ hnew_; (first | rw [← Ny311.out] at ho6 | (simp only [Int.reduceToNat] at ho6; rw [← Ny311.out] at ho6)); have n0_ := zK (Kd.R_lower ho6 (below_size zq0)); have n1_ := zK (below_step zq0 hb); clear HB; have HO313 := n0_; have HB := n1_; clear n0_ n1_; clear hb ho6; have hcv7 := own_string (P := Tryz.prog) Tryz.underlying109 Tryz.underlying5 Tryz.underlying9 (Kd.own_of_R HO313.out)))
     go_roundg k1
     case measure => have := HK1.out; omega
     case rel => exact ⟨(wrap64 (Int.tdiv x0_1 10)), ((strOfNums y311) ++ x3_1), zq4, zq4, H', ⟨by have := HK1.out; omega⟩, ⟨by repeat (first | (with_reducible first | exact HB.out | apply zA | apply zN | apply zD) | exact HB.out)⟩⟩
    rw [if_neg c4] at H
    exact absurd H zq16
   rw [if_neg c3] at H
   have c3b0 : decide (0 < x0_1) = false := decide_eq_false c3
   clear c3
   by_cases c8 : 1 + x3_1.size ≤ 9223372036854775807
   ·
    rw [if_pos c8] at H
    have c8b0 := eq_true c8
    have c8b1 : decide (1 + x3_1.size ≤ 9223372036854775807) = true := decide_eq_true c8
    try have c8b2 : (9223372036854775807 < 1 + x3_1.size) = False := eq_false (Nat.not_lt.2 c8)
    obtain rfl := Option.some.inj H
    go_wp2
    go_ret
    exact ⟨zq5, zq0⟩
   rw [if_neg c8] at H
   exact absurd H zq16
end Go.Proofs.YtkjgnnhpjcofiaaGreatDoor.PX

namespace Go.Proofs.YtkjgnnhpjcofiaaGreatDoorX
open Go Go.RowKit Go.Proofs.YtkjgnnhpjcofiaaGreatDoorW.PrintWords Go.Proofs.YtkjgnnhpjcofiaaGreatDoor.PX
theorem markText_l0 : ∀ (f n : Nat) (x : ByteArray), n < 10 ^ f → x.size + f + 1 ≤ 9223372036854775807 → n ≤ 9223372036854775807 → ∃ t, laws_markText.l0 (f + 1) (n : Int) x = some t
 | 0, n, x, hn, hx, _ => by
   have : n = 0 := by simpa using hn
   subst this
   rw [laws_markText.l0, if_neg zq7, if_pos zq7]
   exact ⟨_, rfl⟩
 | f + 1, n, x, hn, hx, hb => by
   by_cases h0 : n = 0
   · subst h0
     rw [laws_markText.l0, if_neg zq7, if_pos zq7]
     exact ⟨_, rfl⟩
   · have e : wrap64 (Int.tdiv (n : Int) 10) = ((n / 10 : Nat) : Int) := by
      rw [show Int.tdiv (n : Int) 10 = ((n / 10 : Nat) : Int) from rfl]
      exact wrap_in zq7 zq7
     rw [laws_markText.l0, if_pos zq7]
     simp only [Option.bind_some]
     rw [if_pos (by rw [strOfNums_size]; simp only [List.length_cons, List.length_nil]; omega), e]
     exact markText_l0 f (n / 10) _ (by rw [Nat.pow_succ] at hn; omega) (by rw [ByteArray.size_append, strOfNums_size]; simp only [List.length_cons, List.length_nil]; omega) zq7
def markT (n : Nat) : ByteArray := (laws_markText.f 21 (n : Int)).getD ByteArray.empty
theorem markText_tells (n : Nat) (hn : n ≤ 9223372036854775807) (k : Nat) (hk : 21 ≤ k) : laws_markText.f k (n : Int) = some (markT n) := by
 have base : laws_markText.f 21 (n : Int) = some (markT n) := by
  have : ∃ t, laws_markText.f 21 (n : Int) = some t := by
   unfold laws_markText.f
   split
   · exact ⟨_, rfl⟩
   · exact markText_l0 20 n _ zq7 (by simp [ByteArray.size]) hn
  obtain ⟨t, ht⟩ := this
  unfold markT
  rw [ht]
  rfl
 have up : ∀ d, laws_markText.f (21 + d) (n : Int) = some (markT n) := by
  intro d
  induction d with
  | zero => exact base
  | succ d ih => exact laws_markText.mono _ _ _ ih
 have := up (k - 21)
 rwa [show 21 + (k - 21) = k by omega] at this
theorem mark_all {α : Type} {F : Nat → List α → Int → Int → Option (Int × List α)} (c : Nat) (mk : Nat → α) (N K : Nat)
 (hF : ∀ (k : Nat) (xs : List α) (n i : Nat), K ≤ k → i < xs.length → xs.length ≤ N → n + c ≤ N → F (k + 1) xs (n : Int) (i : Int) = F k (xs.set i (mk n)) ((n + c : Nat) : Int) ((i + 1 : Nat) : Int))
 (hE : ∀ k xs n, F (k + 1) xs n (xs.length : Int) = some (n, xs)) :
 ∀ (d i n : Nat) (xs : List α), i + d = xs.length → xs.length ≤ N → n + c * d ≤ N → ∀ k, K + d < k → F k xs (n : Int) (i : Int) = some (((n + c * d : Nat) : Int), xs.take i ++ (List.range d).map fun j => mk (n + c * j))
 | 0, i, n, xs, hi, hL, hn, k, hk => by
   obtain ⟨k, rfl⟩ : ∃ m, k = m + 1 := ⟨k - 1, by omega⟩
   have e : i = xs.length := by omega
   subst e
   rw [hE]
   simp
 | d + 1, i, n, xs, hi, hL, hn, k, hk => by
   obtain ⟨k, rfl⟩ : ∃ m, k = m + 1 := ⟨k - 1, by omega⟩
   have hd : c * (d + 1) = c * d + c := Nat.mul_succ c d
   have hlt : i < xs.length := by omega
   rw [hF k xs n i zq7 hlt hL zq7, mark_all c mk N K hF hE d (i + 1) (n + c) (xs.set i (mk n)) (by rw [List.length_set]; omega) (by rw [List.length_set]; exact hL) zq7 k zq7]
   have hlt2 : i < (xs.set i (mk n)).length := by rw [List.length_set]; exact hlt
   rw [show n + c + c * d = n + c * (d + 1) by omega, List.take_succ_eq_append_getElem hlt2, List.getElem_set_self, List.take_set_of_le (Nat.le_refl _), List.range_succ_eq_map, List.map_cons, List.map_map, List.append_assoc]
   congr 4
   show mk n :: _ = _
   congr 1
   apply List.map_congr_left
   intro j _
   show mk (n + c + c * j) = mk (n + c * (j + 1))
   congr 1
   rw [Nat.mul_succ]
   omega
theorem held_all {α : Type} {G : Nat → List α → Int → Int → Option Int} (c : Nat) (mk : Nat → α) (d0 : α) (N K : Nat)
 (hG : ∀ (k : Nat) (xs : List α) (n i : Nat), K ≤ k → i < xs.length → xs.length ≤ N → n + c ≤ N → xs.getD i d0 = mk n → G (k + 1) xs (n : Int) (i : Int) = G k xs ((n + c : Nat) : Int) ((i + 1 : Nat) : Int))
 (hE : ∀ k xs n, G (k + 1) xs n (xs.length : Int) = some n) (L n0 : Nat) (hL : L ≤ N) (hN : n0 + c * L ≤ N) :
 ∀ (d i : Nat), i + d = L → ∀ k, K + d < k → G k ((List.range L).map fun j => mk (n0 + c * j)) ((n0 + c * i : Nat) : Int) (i : Int) = some ((n0 + c * L : Nat) : Int)
 | 0, i, hi, k, hk => by
   obtain ⟨k, rfl⟩ : ∃ m, k = m + 1 := ⟨k - 1, by omega⟩
   have e : i = L := by omega
   subst e
   have := hE k ((List.range i).map fun j => mk (n0 + c * j)) ((n0 + c * i : Nat) : Int)
   rwa [List.length_map, List.length_range] at this
 | d + 1, i, hi, k, hk => by
   obtain ⟨k, rfl⟩ : ∃ m, k = m + 1 := ⟨k - 1, by omega⟩
   have hm : c * i + c ≤ c * L := by rw [← Nat.mul_succ]; exact Nat.mul_le_mul_left c zq7
   rw [hG k _ (n0 + c * i) i zq7 (by rw [List.length_map, List.length_range]; omega) (by rw [List.length_map, List.length_range]; exact hL) zq7 (by
    rw [List.getD_eq_getElem?_getD, List.getElem?_map, List.getElem?_range zq7]
    rfl)]
   have := held_all c mk d0 N K hG hE L n0 hL hN d (i + 1) zq7 k zq7
   rwa [show n0 + c * (i + 1) = n0 + c * i + c by rw [Nat.mul_succ]; omega] at this
end Go.Proofs.YtkjgnnhpjcofiaaGreatDoorX

namespace Go.Proofs.YtkjgnnhpjcofiaaGreatDoor.PX
open Go.RowKit Go.Proofs.YtkjgnnhpjcofiaaGreatDoorW.PrintWords Go.Proofs.YtkjgnnhpjcofiaaGreatDoorW.PrintLast Go.Proofs.YtkjgnnhpjcofiaaGreatDoorW.PrintMore
attribute [local go_sem] max2_int min2_int max_two min_two max_three min_three max_four min_four   -- for this text's walks alone
set_option linter.unusedVariables false
set_option linter.unusedSimpArgs false
def laws_eqObject.f (a0_0 : ByteArray) (a0_1 : Int) (a0_2 : ByteArray) (a1_0 : ByteArray) (a1_1 : Int) (a1_2 : ByteArray) : Option (Bool) := if a0_0.toList = a1_0.toList then (if a0_1 = a1_1 then (if a0_2.toList = a1_2.toList then (some true) else (some false)) else (some false)) else (some false)
set_option maxHeartbeats 8000000 in
set_option maxRecDepth 100000 in
theorem laws_eqObject.calls (a0_0 : ByteArray) (a0_1 : Int) (a0_2 : ByteArray) (a1_0 : ByteArray) (a1_1 : Int) (a1_2 : ByteArray) (r : Bool) (w : World) (h : laws_eqObject.f a0_0 a0_1 a0_2 a1_0 a1_1 a1_2 = some r) :
  Calls Tryz.prog 45 #[.agg #[.string a0_0, .int .i64 a0_1, .string a0_2], .agg #[.string a1_0, .int .i64 a1_1, .string a1_2]] w fun e w' => e = .returned (.bool r) ∧ Below w.heap.size w w' := by
 have hu65 := Tryz.underlying65
 have HB := zK (Below.refl w.heap.size w)
 have H : (if a0_0.toList = a1_0.toList then (if a0_1 = a1_1 then (if a0_2.toList = a1_2.toList then (some true) else (some false)) else (some false)) else (some false)) = some r := h
 clear h
 by_cases c3 : a0_0.toList = a1_0.toList
 ·
  rw [if_pos c3] at H
  have c3b0 : (a0_0.toList == a1_0.toList) = true := beq_iff_eq.mpr c3
  have c3b1 : (a0_0.toList != a1_0.toList) = false := bne_eq_false_iff_eq.mpr c3
  clear c3
  by_cases c4 : a0_1 = a1_1
  ·
   rw [if_pos c4] at H
   have c4b0 : (a0_1 == a1_1) = true := beq_iff_eq.mpr c4
   have c4b1 : (a0_1 != a1_1) = false := bne_eq_false_iff_eq.mpr c4
   clear c4
   by_cases c5 : a0_2.toList = a1_2.toList
   ·
    rw [if_pos c5] at H
    have c5b0 : (a0_2.toList == a1_2.toList) = true := beq_iff_eq.mpr c5
    have c5b1 : (a0_2.toList != a1_2.toList) = false := bne_eq_false_iff_eq.mpr c5
    clear c5
    obtain rfl := Option.some.inj H
    go_enter Tryz.func45, Tryz.ntmps45
    go_wp2_with (first | ((with_reducible refine gate_dst (N := 2) rfl ?_); refine box_event ?hg (N := 2) ?hd (cs := #[.string a0_0, .int .i64 a0_1, .string a0_2]) (t := 65) ?hr ?_; (case hd => rfl); (case hg => rfl); (case hr => first | (go_simp; done) | (go_simp; rfl)); intro gb306 hg w6 hbox hb; have n0_ := zK (below_step zq0 hb); have n1_ := zK (hbox); have n2_ := zK ((by rw [hg]; exact (below_size zq0) : w.heap.size ≤ gb306)); have n3_ := zK ((by rw [hg]; exact (below_size zq0) : w.heap.size ≤ gb306)); clear HB; have HB := n0_; have BK306 := n1_; have GW306 := n2_; have GE306 := n3_; clear n0_ n1_ n2_ n3_; clear hb hbox hg) | ((with_reducible refine gate_dst (N := 3) rfl ?_); refine box_event ?hg (N := 3) ?hd (cs := #[.string a1_0, .int .i64 a1_1, .string a1_2]) (t := 65) ?hr ?_; (case hd => rfl); (case hg => rfl); (case hr => first | (go_simp; done) | (go_simp; rfl)); intro gb307 hg w7 hbox hb; have n0_ := zK (blk_below (g := gb306) (o := .cells #[.string a0_0, .int .i64 a0_1, .string a0_2] 65 (0, 0)) (by (with_reducible repeat (first | refine zM ?_ _ | refine zP ?_ | refine zQ ?_ _)); exact BK306.out) hb); have n1_ := zK (below_step (by repeat (first | (with_reducible first | exact HB.out | apply zA | apply zN | apply zD | refine below_set ?_ GE306.out) | exact HB.out)) hb); have n2_ := zK (hbox); have n3_ := zK ((by rw [hg]; exact (below_size (by repeat (first | (with_reducible first | exact HB.out | apply zA | apply zN | apply zD | refine below_set ?_ GE306.out) | exact HB.out))) : w.heap.size ≤ gb307)); have n4_ := zK ((by rw [hg]; exact (below_size (by repeat (first | (with_reducible first | exact HB.out | apply zA | apply zN | apply zD | refine below_set ?_ GE306.out) | exact HB.out))) : w.heap.size ≤ gb307)); have n5_ := zK ((by rw [hg]; exact Nat.ne_of_lt (blk_lt (g := gb306) (o := .cells #[.string a0_0, .int .i64 a0_1, .string a0_2] 65 (0, 0)) (by (with_reducible repeat (first | refine zM ?_ _ | refine zP ?_ | refine zQ ?_ _)); exact BK306.out)) : gb306 ≠ gb307)); have n6_ := zK ((by rw [hg]; exact Nat.ne_of_gt (blk_lt (g := gb306) (o := .cells #[.string a0_0, .int .i64 a0_1, .string a0_2] 65 (0, 0)) (by (with_reducible repeat (first | refine zM ?_ _ | refine zP ?_ | refine zQ ?_ _)); exact BK306.out)) : gb307 ≠ gb306)); clear BK306; clear HB; have BK306 := n0_; have HB := n1_; have BK307 := n2_; have GW307 := n3_; have GE307 := n4_; have NB306_307 := n5_; have NB307_306 := n6_; clear n0_ n1_ n2_ n3_ n4_ n5_ n6_; clear hb hbox hg; have hnb8 := NB306_307.out; have hnc8 := NB307_306.out; have hcz9_0 : w7.cell? ⟨gb306, 0, none⟩ = some (.string a0_0) := (blk_cell BK306.out 0).trans rfl; have hcz9_1 : w7.cell? ⟨gb306, 1, none⟩ = some (.int .i64 a0_1) := (blk_cell BK306.out 1).trans rfl; have hcz9_2 : w7.cell? ⟨gb306, 2, none⟩ = some (.string a0_2) := (blk_cell BK306.out 2).trans rfl; have hfz9_0 := blk_frozen BK306.out 0; have hfz9_1 := blk_frozen BK306.out 1; have hfz9_2 := blk_frozen BK306.out 2; have hcz10_0 : w7.cell? ⟨gb307, 0, none⟩ = some (.string a1_0) := (blk_cell BK307.out 0).trans rfl; have hcz10_1 : w7.cell? ⟨gb307, 1, none⟩ = some (.int .i64 a1_1) := (blk_cell BK307.out 1).trans rfl; have hcz10_2 : w7.cell? ⟨gb307, 2, none⟩ = some (.string a1_2) := (blk_cell BK307.out 2).trans rfl; have hfz10_0 := blk_frozen BK307.out 0; have hfz10_1 := blk_frozen BK307.out 1; have hfz10_2 := blk_frozen BK307.out 2))
    go_ret
    exact ⟨zq5, (by repeat (first | (with_reducible first | exact HB.out | apply zA | apply zN | apply zD | refine below_set ?_ GE306.out | refine below_set ?_ GE307.out) | exact HB.out))⟩
   rw [if_neg c5] at H
   have c5b0 : (a0_2.toList == a1_2.toList) = false := beq_eq_false_iff_ne.mpr c5
   have c5b1 : (a0_2.toList != a1_2.toList) = true := bne_iff_ne.mpr c5
   obtain rfl := Option.some.inj H
   go_enter Tryz.func45, Tryz.ntmps45
   go_wp2_with (first | ((with_reducible refine gate_dst (N := 2) rfl ?_); refine box_event ?hg (N := 2) ?hd (cs := #[.string a0_0, .int .i64 a0_1, .string a0_2]) (t := 65) ?hr ?_; (case hd => rfl); (case hg => rfl); (case hr => first | (go_simp; done) | (go_simp; rfl)); intro gb306 hg w11 hbox hb; have n0_ := zK (below_step zq0 hb); have n1_ := zK (hbox); have n2_ := zK ((by rw [hg]; exact (below_size zq0) : w.heap.size ≤ gb306)); have n3_ := zK ((by rw [hg]; exact (below_size zq0) : w.heap.size ≤ gb306)); clear HB; have HB := n0_; have BK306 := n1_; have GW306 := n2_; have GE306 := n3_; clear n0_ n1_ n2_ n3_; clear hb hbox hg) | ((with_reducible refine gate_dst (N := 3) rfl ?_); refine box_event ?hg (N := 3) ?hd (cs := #[.string a1_0, .int .i64 a1_1, .string a1_2]) (t := 65) ?hr ?_; (case hd => rfl); (case hg => rfl); (case hr => first | (go_simp; done) | (go_simp; rfl)); intro gb307 hg w12 hbox hb; have n0_ := zK (blk_below (g := gb306) (o := .cells #[.string a0_0, .int .i64 a0_1, .string a0_2] 65 (0, 0)) (by (with_reducible repeat (first | refine zM ?_ _ | refine zP ?_ | refine zQ ?_ _)); exact BK306.out) hb); have n1_ := zK (below_step (by repeat (first | (with_reducible first | exact HB.out | apply zA | apply zN | apply zD | refine below_set ?_ GE306.out) | exact HB.out)) hb); have n2_ := zK (hbox); have n3_ := zK ((by rw [hg]; exact (below_size (by repeat (first | (with_reducible first | exact HB.out | apply zA | apply zN | apply zD | refine below_set ?_ GE306.out) | exact HB.out))) : w.heap.size ≤ gb307)); have n4_ := zK ((by rw [hg]; exact (below_size (by repeat (first | (with_reducible first | exact HB.out | apply zA | apply zN | apply zD | refine below_set ?_ GE306.out) | exact HB.out))) : w.heap.size ≤ gb307)); have n5_ := zK ((by rw [hg]; exact Nat.ne_of_lt (blk_lt (g := gb306) (o := .cells #[.string a0_0, .int .i64 a0_1, .string a0_2] 65 (0, 0)) (by (with_reducible repeat (first | refine zM ?_ _ | refine zP ?_ | refine zQ ?_ _)); exact BK306.out)) : gb306 ≠ gb307)); have n6_ := zK ((by rw [hg]; exact Nat.ne_of_gt (blk_lt (g := gb306) (o := .cells #[.string a0_0, .int .i64 a0_1, .string a0_2] 65 (0, 0)) (by (with_reducible repeat (first | refine zM ?_ _ | refine zP ?_ | refine zQ ?_ _)); exact BK306.out)) : gb307 ≠ gb306)); clear BK306; clear HB; have BK306 := n0_; have HB := n1_; have BK307 := n2_; have GW307 := n3_; have GE307 := n4_; have NB306_307 := n5_; have NB307_306 := n6_; clear n0_ n1_ n2_ n3_ n4_ n5_ n6_; clear hb hbox hg; have hnb13 := NB306_307.out; have hnc13 := NB307_306.out; have hcz14_0 : w12.cell? ⟨gb306, 0, none⟩ = some (.string a0_0) := (blk_cell BK306.out 0).trans rfl; have hcz14_1 : w12.cell? ⟨gb306, 1, none⟩ = some (.int .i64 a0_1) := (blk_cell BK306.out 1).trans rfl; have hcz14_2 : w12.cell? ⟨gb306, 2, none⟩ = some (.string a0_2) := (blk_cell BK306.out 2).trans rfl; have hfz14_0 := blk_frozen BK306.out 0; have hfz14_1 := blk_frozen BK306.out 1; have hfz14_2 := blk_frozen BK306.out 2; have hcz15_0 : w12.cell? ⟨gb307, 0, none⟩ = some (.string a1_0) := (blk_cell BK307.out 0).trans rfl; have hcz15_1 : w12.cell? ⟨gb307, 1, none⟩ = some (.int .i64 a1_1) := (blk_cell BK307.out 1).trans rfl; have hcz15_2 : w12.cell? ⟨gb307, 2, none⟩ = some (.string a1_2) := (blk_cell BK307.out 2).trans rfl; have hfz15_0 := blk_frozen BK307.out 0; have hfz15_1 := blk_frozen BK307.out 1; have hfz15_2 := blk_frozen BK307.out 2))
   go_ret
   exact ⟨zq5, (by repeat (first | (with_reducible first | exact HB.out | apply zA | apply zN | apply zD | refine below_set ?_ GE306.out | refine below_set ?_ GE307.out) | exact HB.out))⟩
  rw [if_neg c4] at H
  have c4b0 : (a0_1 == a1_1) = false := beq_eq_false_iff_ne.mpr c4
  have c4b1 : (a0_1 != a1_1) = true := bne_iff_ne.mpr c4
  obtain rfl := Option.some.inj H
  go_enter Tryz.func45, Tryz.ntmps45
  go_wp2_with (first | ((with_reducible refine gate_dst (N := 2) rfl ?_); refine box_event ?hg (N := 2) ?hd (cs := #[.string a0_0, .int .i64 a0_1, .string a0_2]) (t := 65) ?hr ?_; (case hd => rfl); (case hg => rfl); (case hr => first | (go_simp; done) | (go_simp; rfl)); intro gb306 hg w16 hbox hb; have n0_ := zK (below_step zq0 hb); have n1_ := zK (hbox); have n2_ := zK ((by rw [hg]; exact (below_size zq0) : w.heap.size ≤ gb306)); have n3_ := zK ((by rw [hg]; exact (below_size zq0) : w.heap.size ≤ gb306)); clear HB; have HB := n0_; have BK306 := n1_; have GW306 := n2_; have GE306 := n3_; clear n0_ n1_ n2_ n3_; clear hb hbox hg) | ((with_reducible refine gate_dst (N := 3) rfl ?_); refine box_event ?hg (N := 3) ?hd (cs := #[.string a1_0, .int .i64 a1_1, .string a1_2]) (t := 65) ?hr ?_; (case hd => rfl); (case hg => rfl); (case hr => first | (go_simp; done) | (go_simp; rfl)); intro gb307 hg w17 hbox hb; have n0_ := zK (blk_below (g := gb306) (o := .cells #[.string a0_0, .int .i64 a0_1, .string a0_2] 65 (0, 0)) (by (with_reducible repeat (first | refine zM ?_ _ | refine zP ?_ | refine zQ ?_ _)); exact BK306.out) hb); have n1_ := zK (below_step (by repeat (first | (with_reducible first | exact HB.out | apply zA | apply zN | apply zD | refine below_set ?_ GE306.out) | exact HB.out)) hb); have n2_ := zK (hbox); have n3_ := zK ((by rw [hg]; exact (below_size (by repeat (first | (with_reducible first | exact HB.out | apply zA | apply zN | apply zD | refine below_set ?_ GE306.out) | exact HB.out))) : w.heap.size ≤ gb307)); have n4_ := zK ((by rw [hg]; exact (below_size (by repeat (first | (with_reducible first | exact HB.out | apply zA | apply zN | apply zD | refine below_set ?_ GE306.out) | exact HB.out))) : w.heap.size ≤ gb307)); have n5_ := zK ((by rw [hg]; exact Nat.ne_of_lt (blk_lt (g := gb306) (o := .cells #[.string a0_0, .int .i64 a0_1, .string a0_2] 65 (0, 0)) (by (with_reducible repeat (first | refine zM ?_ _ | refine zP ?_ | refine zQ ?_ _)); exact BK306.out)) : gb306 ≠ gb307)); have n6_ := zK ((by rw [hg]; exact Nat.ne_of_gt (blk_lt (g := gb306) (o := .cells #[.string a0_0, .int .i64 a0_1, .string a0_2] 65 (0, 0)) (by (with_reducible repeat (first | refine zM ?_ _ | refine zP ?_ | refine zQ ?_ _)); exact BK306.out)) : gb307 ≠ gb306)); clear BK306; clear HB; have BK306 := n0_; have HB := n1_; have BK307 := n2_; have GW307 := n3_; have GE307 := n4_; have NB306_307 := n5_; have NB307_306 := n6_; clear n0_ n1_ n2_ n3_ n4_ n5_ n6_; clear hb hbox hg; have hnb18 := NB306_307.out; have hnc18 := NB307_306.out; have hcz19_0 : w17.cell? ⟨gb306, 0, none⟩ = some (.string a0_0) := (blk_cell BK306.out 0).trans rfl; have hcz19_1 : w17.cell? ⟨gb306, 1, none⟩ = some (.int .i64 a0_1) := (blk_cell BK306.out 1).trans rfl; have hcz19_2 : w17.cell? ⟨gb306, 2, none⟩ = some (.string a0_2) := (blk_cell BK306.out 2).trans rfl; have hfz19_0 := blk_frozen BK306.out 0; have hfz19_1 := blk_frozen BK306.out 1; have hfz19_2 := blk_frozen BK306.out 2; have hcz20_0 : w17.cell? ⟨gb307, 0, none⟩ = some (.string a1_0) := (blk_cell BK307.out 0).trans rfl; have hcz20_1 : w17.cell? ⟨gb307, 1, none⟩ = some (.int .i64 a1_1) := (blk_cell BK307.out 1).trans rfl; have hcz20_2 : w17.cell? ⟨gb307, 2, none⟩ = some (.string a1_2) := (blk_cell BK307.out 2).trans rfl; have hfz20_0 := blk_frozen BK307.out 0; have hfz20_1 := blk_frozen BK307.out 1; have hfz20_2 := blk_frozen BK307.out 2))
  go_ret
  exact ⟨zq5, (by repeat (first | (with_reducible first | exact HB.out | apply zA | apply zN | apply zD | refine below_set ?_ GE306.out | refine below_set ?_ GE307.out) | exact HB.out))⟩
 rw [if_neg c3] at H
 have c3b0 : (a0_0.toList == a1_0.toList) = false := beq_eq_false_iff_ne.mpr c3
 have c3b1 : (a0_0.toList != a1_0.toList) = true := bne_iff_ne.mpr c3
 obtain rfl := Option.some.inj H
 go_enter Tryz.func45, Tryz.ntmps45
 go_wp2_with (first | ((with_reducible refine gate_dst (N := 2) rfl ?_); refine box_event ?hg (N := 2) ?hd (cs := #[.string a0_0, .int .i64 a0_1, .string a0_2]) (t := 65) ?hr ?_; (case hd => rfl); (case hg => rfl); (case hr => first | (go_simp; done) | (go_simp; rfl)); intro gb306 hg w21 hbox hb; have n0_ := zK (below_step zq0 hb); have n1_ := zK (hbox); have n2_ := zK ((by rw [hg]; exact (below_size zq0) : w.heap.size ≤ gb306)); have n3_ := zK ((by rw [hg]; exact (below_size zq0) : w.heap.size ≤ gb306)); clear HB; have HB := n0_; have BK306 := n1_; have GW306 := n2_; have GE306 := n3_; clear n0_ n1_ n2_ n3_; clear hb hbox hg) | ((with_reducible refine gate_dst (N := 3) rfl ?_); refine box_event ?hg (N := 3) ?hd (cs := #[.string a1_0, .int .i64 a1_1, .string a1_2]) (t := 65) ?hr ?_; (case hd => rfl); (case hg => rfl); (case hr => first | (go_simp; done) | (go_simp; rfl)); intro gb307 hg w22 hbox hb; have n0_ := zK (blk_below (g := gb306) (o := .cells #[.string a0_0, .int .i64 a0_1, .string a0_2] 65 (0, 0)) (by (with_reducible repeat (first | refine zM ?_ _ | refine zP ?_ | refine zQ ?_ _)); exact BK306.out) hb); have n1_ := zK (below_step (by repeat (first | (with_reducible first | exact HB.out | apply zA | apply zN | apply zD | refine below_set ?_ GE306.out) | exact HB.out)) hb); have n2_ := zK (hbox); have n3_ := zK ((by rw [hg]; exact (below_size (by repeat (first | (with_reducible first | exact HB.out | apply zA | apply zN | apply zD | refine below_set ?_ GE306.out) | exact HB.out))) : w.heap.size ≤ gb307)); have n4_ := zK ((by rw [hg]; exact (below_size (by repeat (first | (with_reducible first | exact HB.out | apply zA | apply zN | apply zD | refine below_set ?_ GE306.out) | exact HB.out))) : w.heap.size ≤ gb307)); have n5_ := zK ((by rw [hg]; exact Nat.ne_of_lt (blk_lt (g := gb306) (o := .cells #[.string a0_0, .int .i64 a0_1, .string a0_2] 65 (0, 0)) (by (with_reducible repeat (first | refine zM ?_ _ | refine zP ?_ | refine zQ ?_ _)); exact BK306.out)) : gb306 ≠ gb307)); have n6_ := zK ((by rw [hg]; exact Nat.ne_of_gt (blk_lt (g := gb306) (o := .cells #[.string a0_0, .int .i64 a0_1, .string a0_2] 65 (0, 0)) (by (with_reducible repeat (first | refine zM ?_ _ | refine zP ?_ | refine zQ ?_ _)); exact BK306.out)) : gb307 ≠ gb306)); clear BK306; clear HB; have BK306 := n0_; have HB := n1_; have BK307 := n2_; have GW307 := n3_; have GE307 := n4_; have NB306_307 := n5_; have NB307_306 := n6_; clear n0_ n1_ n2_ n3_ n4_ n5_ n6_; clear hb hbox hg; have hnb23 := NB306_307.out; have hnc23 := NB307_306.out; have hcz24_0 : w22.cell? ⟨gb306, 0, none⟩ = some (.string a0_0) := (blk_cell BK306.out 0).trans rfl; have hcz24_1 : w22.cell? ⟨gb306, 1, none⟩ = some (.int .i64 a0_1) := (blk_cell BK306.out 1).trans rfl; have hcz24_2 : w22.cell? ⟨gb306, 2, none⟩ = some (.string a0_2) := (blk_cell BK306.out 2).trans rfl; have hfz24_0 := blk_frozen BK306.out 0; have hfz24_1 := blk_frozen BK306.out 1; have hfz24_2 := blk_frozen BK306.out 2; have hcz25_0 : w22.cell? ⟨gb307, 0, none⟩ = some (.string a1_0) := (blk_cell BK307.out 0).trans rfl; have hcz25_1 : w22.cell? ⟨gb307, 1, none⟩ = some (.int .i64 a1_1) := (blk_cell BK307.out 1).trans rfl; have hcz25_2 : w22.cell? ⟨gb307, 2, none⟩ = some (.string a1_2) := (blk_cell BK307.out 2).trans rfl; have hfz25_0 := blk_frozen BK307.out 0; have hfz25_1 := blk_frozen BK307.out 1; have hfz25_2 := blk_frozen BK307.out 2))
 go_ret
 exact ⟨zq5, (by repeat (first | (with_reducible first | exact HB.out | apply zA | apply zN | apply zD | refine below_set ?_ GE306.out | refine below_set ?_ GE307.out) | exact HB.out))⟩
def laws_eqObjectS.l0 : Nat → List (S65) → List (S65) → Int → Option (Bool)
 | 0, _, _, _ => none
 | k + 1, x0, x1, x5 => if x5 < (x0.length : Int) then (if 0 ≤ x5 then (if x5 < (x1.length : Int) then ((laws_eqObject.f ((rd_T65 x0 x5).f0) ((rd_T65 x0 x5).f1) ((rd_T65 x0 x5).f2) ((rd_T65 x1 x5).f0) ((rd_T65 x1 x5).f1) ((rd_T65 x1 x5).f2)).bind fun t310 => (if t310 = true then (laws_eqObjectS.l0 k x0 x1 (wrap64 (x5 + 1))) else (some false))) else (none)) else (none)) else (some true)
def laws_eqObjectS.f (k : Nat) (l0 : List (S65)) (l1 : List (S65)) : Option (Bool) := if (l0.length : Int) = (l1.length : Int) then (laws_eqObjectS.l0 k l0 l1 0) else (some false)
def laws_eqObjectS.T6 : Bool × List (List Nat × List Nat) := (true, [([], []), ([], []), ([0, 1], [0, 1]), ([2], [2]), ([], []), ([], []), ([4, 5], [4, 5]), ([6], [6]), ([3, 7], [3, 7]), ([8], [8])])
def laws_eqObjectS.B6 : List Nat := [0, 0, 3, 7, 0, 0, 48, 112, 255, 511]
theorem laws_eqObjectS.tab6 : rtab .any (opsOf Tryz.f13 6) = laws_eqObjectS.T6 := by kernel_rfl
theorem laws_eqObjectS.bits6 : waitsOk laws_eqObjectS.T6.2 laws_eqObjectS.B6 = true := by kernel_rfl
set_option maxHeartbeats 8000000 in
set_option maxRecDepth 100000 in
theorem laws_eqObjectS.calls (k : Nat) (A0 : Option Addr) (c0 : Nat) (l0 : List (S65)) (A1 : Option Addr) (c1 : Nat) (l1 : List (S65)) (r : Bool) (w : World) (hr0 : Kd.C k65 w A0 l0.length l0) (hc0 : l0.length ≤ c0) (hr1 : Kd.C k65 w A1 l1.length l1) (hc1 : l1.length ≤ c1) (h : laws_eqObjectS.f k l0 l1 = some r) :
  Calls Tryz.prog 13 #[.slice A0 l0.length c0, .slice A1 l1.length c1] w fun e w' => e = .returned (.bool r) ∧ Below w.heap.size w w' := by
 have hu65 := Tryz.underlying65
 have HR0 := zK hr0
 have HC0 := zK hc0
 clear hr0 hc0
 have HR1 := zK hr1
 have HC1 := zK hc1
 clear hr1 hc1
 have HB := zK (Below.refl w.heap.size w)
 have H : (if (l0.length : Int) = (l1.length : Int) then (laws_eqObjectS.l0 k l0 l1 0) else (some false)) = some r := h
 clear h
 by_cases c3 : (l0.length : Int) = (l1.length : Int)
 ·
  rw [if_pos c3] at H
  have c3b0 : ((l0.length : Int) == (l1.length : Int)) = true := beq_iff_eq.mpr c3
  have c3b1 : ((l0.length : Int) != (l1.length : Int)) = false := bne_eq_false_iff_eq.mpr c3
  have c3b2 : (l0.length == l1.length) = true := by first | simpa using c3 | (simp at c3 ⊢; omega)
  clear c3
  have H' := zK H
  clear H
  go_enter Tryz.func13, Tryz.ntmps13
  go_wp2
  go_loopg [5] k (fun kq v5 w' => ∃ (x5_1 : Int), v5 = .int .i64 x5_1 ∧ Aside0 (laws_eqObjectS.l0 kq l0 l1 x5_1 = some r) ∧ Aside0 (kq ≤ k) ∧ Aside0 (Below w.heap.size w w'))
  case atStart => exact ⟨(0), zq4, H', ⟨Nat.le_refl _⟩, ⟨by repeat (first | (with_reducible first | exact HB.out | apply zA | apply zN | apply zD) | exact HB.out)⟩⟩
  case round =>
   clear H'
   try clear c1
   try clear p2
   try clear c3
   try clear c3b0
   try clear c3b1
   try clear c3b2
   obtain ⟨x5_1, rfl, HA, HK1, HB⟩ := hrel
   cases gk with
   | zero => exact absurd HA.out (by simp [laws_eqObjectS.l0])
   | succ k1 =>
    have H := HA.out
    clear HA
    simp only [laws_eqObjectS.l0] at H
    by_cases c4 : x5_1 < (l0.length : Int)
    ·
     rw [if_pos c4] at H
     have c4b0 : decide (x5_1 < (l0.length : Int)) = true := decide_eq_true c4
     clear c4
     by_cases c5 : 0 ≤ x5_1
     ·
      rw [if_pos c5] at H
      have c5b0 : decide (0 ≤ x5_1) = true := decide_eq_true c5
      clear c5
      by_cases c6 : x5_1 < (l1.length : Int)
      ·
       rw [if_pos c6] at H
       have c6b0 : decide (x5_1 < (l1.length : Int)) = true := decide_eq_true c6
       clear c6
       replace H := Option.bind_eq_some_iff.mp H
       obtain ⟨t310, A70, H⟩ := H
       replace H : (if t310 = true then (laws_eqObjectS.l0 k1 l0 l1 (wrap64 (x5_1 + 1))) else (some false)) = some r := H
       have A7 := zK A70
       clear A70
       by_cases c8 : t310 = true
       ·
        subst c8
        have H1 : (laws_eqObjectS.l0 k1 l0 l1 (wrap64 (x5_1 + 1))) = some r := by rw [if_pos rfl] at H; exact H
        clear H
        have H := H1
        clear H1
        have H' := zK H
        clear H
        try go_wp2
        have n0_ := zK (zD HB.out)
        clear HB
        have HB := n0_
        clear n0_
        have p308 : 0 ≤ (x5_1 : Int) := zX zq2
        have q308 : x5_1 < (l0.length : Int) := zX zq2
        obtain ⟨ad308, e308, hx308_0, hx308_1, hx308_2⟩ := at_T65 HR0.out x5_1 p308 q308
        have hw308_2 := hx308_2
        have hw308_1 := hx308_1
        have hw308_0 := hx308_0
        cases e308
        replace hx308_0 := (HB.out.cell (zL w _ hx308_0)).trans hx308_0
        replace hx308_1 := (HB.out.cell (zL w _ hx308_1)).trans hx308_1
        replace hx308_2 := (HB.out.cell (zL w _ hx308_2)).trans hx308_2
        replace p308 := eq_true p308
        replace q308 := eq_true q308
        have p309 : 0 ≤ (x5_1 : Int) := zX zq2
        have q309 : x5_1 < (l1.length : Int) := zX zq2
        obtain ⟨ad309, e309, hx309_0, hx309_1, hx309_2⟩ := at_T65 HR1.out x5_1 p309 q309
        have hw309_2 := hx309_2
        have hw309_1 := hx309_1
        have hw309_0 := hx309_0
        cases e309
        replace hx309_0 := (HB.out.cell (zL w _ hx309_0)).trans hx309_0
        replace hx309_1 := (HB.out.cell (zL w _ hx309_1)).trans hx309_1
        replace hx309_2 := (HB.out.cell (zL w _ hx309_2)).trans hx309_2
        replace p309 := eq_true p309
        replace q309 := eq_true q309
        refine start_ (n := 10) (S := fun w' => w'.cell? (ad308.add ((x5_1).toNat * 3)) = some (.string ((rd_T65 l0 x5_1).f0)) ∧ w'.cell? ⟨(ad308.add ((x5_1).toNat * 3)).block, (ad308.add ((x5_1).toNat * 3)).off + 1, none⟩ = some (.int .i64 ((rd_T65 l0 x5_1).f1)) ∧ w'.cell? ⟨(ad308.add ((x5_1).toNat * 3)).block, (ad308.add ((x5_1).toNat * 3)).off + 2, none⟩ = some (.string ((rd_T65 l0 x5_1).f2)) ∧ w'.cell? (ad309.add ((x5_1).toNat * 3)) = some (.string ((rd_T65 l1 x5_1).f0)) ∧ w'.cell? ⟨(ad309.add ((x5_1).toNat * 3)).block, (ad309.add ((x5_1).toNat * 3)).off + 1, none⟩ = some (.int .i64 ((rd_T65 l1 x5_1).f1)) ∧ w'.cell? ⟨(ad309.add ((x5_1).toNat * 3)).block, (ad309.add ((x5_1).toNat * 3)).off + 2, none⟩ = some (.string ((rd_T65 l1 x5_1).f2))) (ds := []) #[zF,zF,zF,zF,zF,zF,zF,zF,zF,zF] zq3 rfl rfl ⟨((HB.out.cell (zL w _ hw308_0)).trans hw308_0), ((HB.out.cell (zL w _ hw308_1)).trans hw308_1), ((HB.out.cell (zL w _ hw308_2)).trans hw308_2), ((HB.out.cell (zL w _ hw309_0)).trans hw309_0), ((HB.out.cell (zL w _ hw309_1)).trans hw309_1), ((HB.out.cell (zL w _ hw309_2)).trans hw309_2)⟩ (fun hHeld => ?_); refine with_tabW laws_eqObjectS.tab6 laws_eqObjectS.bits6 (fun HT_ HW_ => ?_)
        generalize wr.drew = w9 at HB hx308_0 hx308_1 hx308_2 hx309_0 hx309_1 hx309_2 hHeld ⊢
        refine pure_ (i := 0) (N := some 17) (v := ?_) (a' := ?_) #[zB,zF,zF,zF,zF,zF,zF,zF,zF,zF] rfl rfl (any_of HT_.out zq3) (fun _ _ _ h => h) (Or.inl ⟨by rfl, ?_⟩) ?_ ?_
        rotate_left
        ·
         intro w'
         go_simp
         with_reducible rfl
        rotate_left
        ·
         simp only [Act.put, zS, zT, zU, i64_w, i32_w]
         rfl
        refine pure_ (i := 1) (N := some 18) (v := ?_) (a' := ?_) #[zB,zB,zF,zF,zF,zF,zF,zF,zF,zF] rfl rfl (any_of HT_.out zq3) (fun _ _ _ h => h) (Or.inl ⟨by rfl, ?_⟩) ?_ ?_
        rotate_left
        ·
         intro w'
         go_simp
         with_reducible rfl
        rotate_left
        ·
         simp only [Act.put, zS, zT, zU, i64_w, i32_w]
         rfl
        refine pure_ (i := 2) (N := some 19) (v := ?_) (a' := ?_) #[zB,zB,zB,zF,zF,zF,zF,zF,zF,zF] rfl rfl (any_of HT_.out zq3) (fun _ _ _ h => h) (Or.inl ⟨by rfl, ?_⟩) ?_ ?_
        rotate_left
        ·
         intro w'
         go_simp
         with_reducible rfl
        rotate_left
        ·
         simp only [Act.put, zS, zT, zU, i64_w, i32_w]
         rfl
        refine pure_ (i := 4) (N := some 21) (v := ?_) (a' := ?_) #[zB,zB,zB,zF,zB,zF,zF,zF,zF,zF] rfl rfl (any_of HT_.out zq3) (fun _ _ _ h => h) (Or.inl ⟨by rfl, ?_⟩) ?_ ?_
        rotate_left
        ·
         intro w'
         go_simp
         with_reducible rfl
        rotate_left
        ·
         simp only [Act.put, zS, zT, zU, i64_w, i32_w]
         rfl
        refine pure_ (i := 5) (N := some 22) (v := ?_) (a' := ?_) #[zB,zB,zB,zF,zB,zB,zF,zF,zF,zF] rfl rfl (any_of HT_.out zq3) (fun _ _ _ h => h) (Or.inl ⟨by rfl, ?_⟩) ?_ ?_
        rotate_left
        ·
         intro w'
         go_simp
         with_reducible rfl
        rotate_left
        ·
         simp only [Act.put, zS, zT, zU, i64_w, i32_w]
         rfl
        refine pure_ (i := 6) (N := some 23) (v := ?_) (a' := ?_) #[zB,zB,zB,zF,zB,zB,zB,zF,zF,zF] rfl rfl (any_of HT_.out zq3) (fun _ _ _ h => h) (Or.inl ⟨by rfl, ?_⟩) ?_ ?_
        rotate_left
        ·
         intro w'
         go_simp
         with_reducible rfl
        rotate_left
        ·
         simp only [Act.put, zS, zT, zU, i64_w, i32_w]
         rfl
        refine take_ (i := 3) (N := some 20) (v := ?_) (a' := ?_) #[zB,zB,zB,zB,zB,zB,zB,zF,zF,zF] rfl rfl (take_ofW HT_.out HW_.out zq3) (fun _ _ _ h => h) (Or.inl ⟨by rfl, ?_⟩) hHeld ?_ ?_
        rotate_left
        ·
         rintro w' ⟨s0, s1, s2, s3, s4, s5⟩
         go_simp
         with_reducible rfl
        rotate_left
        ·
         simp only [Act.put, zS, zT, zU, i64_w, i32_w]
         rfl
        refine take_ (i := 7) (N := some 24) (v := ?_) (a' := ?_) #[zB,zB,zB,zB,zB,zB,zB,zB,zF,zF] rfl rfl (take_ofW HT_.out HW_.out zq3) (fun _ _ _ h => h) (Or.inl ⟨by rfl, ?_⟩) hHeld ?_ ?_
        rotate_left
        ·
         rintro w' ⟨s0, s1, s2, s3, s4, s5⟩
         go_simp
         with_reducible rfl
        rotate_left
        ·
         simp only [Act.put, zS, zT, zU, i64_w, i32_w]
         rfl
        refine one_ (i := 8) (N := some 25) #[zB,zB,zB,zB,zB,zB,zB,zB,zB,zF] rfl rfl (one_of HT_.out zq3) zq13 (fun K hK => ?_)
        refine goes_ Tryz.func45 zq3 rfl #[.agg #[.string ((rd_T65 l0 x5_1).f0), .int .i64 ((rd_T65 l0 x5_1).f1), .string ((rd_T65 l0 x5_1).f2)], .agg #[.string ((rd_T65 l1 x5_1).f0), .int .i64 ((rd_T65 l1 x5_1).f1), .string ((rd_T65 l1 x5_1).f2)]] zq28 rfl rfl zq1 ?_
        with_reducible refine (laws_eqObject.calls ((rd_T65 l0 x5_1).f0) ((rd_T65 l0 x5_1).f1) ((rd_T65 l0 x5_1).f2) ((rd_T65 l1 x5_1).f0) ((rd_T65 l1 x5_1).f1) ((rd_T65 l1 x5_1).f2) true _ A7.out).mono ?_
        rintro e w10 ⟨rfl, hb⟩
        refine ⟨_, rfl, ?_⟩
        have n0_ := zK (below_step zq0 hb)
        clear HB
        have HB := n0_
        clear n0_
        (try clear hb)
        (try clear hb2)
        (try clear hk)
        (try clear hi)
        refine hK.out _ _ ⟨((HB.out.cell (zL w _ hw308_0)).trans hw308_0), ((HB.out.cell (zL w _ hw308_1)).trans hw308_1), ((HB.out.cell (zL w _ hw308_2)).trans hw308_2), ((HB.out.cell (zL w _ hw309_0)).trans hw309_0), ((HB.out.cell (zL w _ hw309_1)).trans hw309_1), ((HB.out.cell (zL w _ hw309_2)).trans hw309_2)⟩ (fun hHeld => ?_)
        clear hK K
        refine norm_ (a' := ?_) ?_ ?_
        rotate_left
        ·
         show Act.put _ (some 25) _ = _
         simp only [Act.put, zS, zT, zU, i64_w, i32_w]
         rfl
        refine pure_ (i := 9) (N := some 26) (v := ?_) (a' := ?_) #[zB,zB,zB,zB,zB,zB,zB,zB,zB,zB] rfl rfl (any_of HT_.out zq3) (fun _ _ _ h => h) (Or.inl ⟨by rfl, ?_⟩) ?_ ?_
        rotate_left
        ·
         intro w'
         go_simp
         with_reducible rfl
        rotate_left
        ·
         simp only [Act.put, zS, zT, zU, i64_w, i32_w]
         rfl
        refine done_ (done_of HT_.out zq3) ?_
        try go_wp2
        go_roundg k1
        case measure => have := HK1.out; omega
        case rel => exact ⟨(wrap64 (x5_1 + 1)), zq4, H', ⟨by have := HK1.out; omega⟩, ⟨by repeat (first | (with_reducible first | exact HB.out | apply zA | apply zN | apply zD) | exact HB.out)⟩⟩
       replace c8 := Bool.eq_false_iff.mpr c8
       subst c8
       have H1 : (some false) = some r := by rw [if_neg (show ¬ (false = true) by decide)] at H; exact H
       clear H
       have H := H1
       clear H1
       obtain rfl := Option.some.inj H
       try go_wp2
       have n0_ := zK (zD HB.out)
       clear HB
       have HB := n0_
       clear n0_
       have p308 : 0 ≤ (x5_1 : Int) := zX zq2
       have q308 : x5_1 < (l0.length : Int) := zX zq2
       obtain ⟨ad308, e308, hx308_0, hx308_1, hx308_2⟩ := at_T65 HR0.out x5_1 p308 q308
       have hw308_2 := hx308_2
       have hw308_1 := hx308_1
       have hw308_0 := hx308_0
       cases e308
       replace hx308_0 := (HB.out.cell (zL w _ hx308_0)).trans hx308_0
       replace hx308_1 := (HB.out.cell (zL w _ hx308_1)).trans hx308_1
       replace hx308_2 := (HB.out.cell (zL w _ hx308_2)).trans hx308_2
       replace p308 := eq_true p308
       replace q308 := eq_true q308
       have p309 : 0 ≤ (x5_1 : Int) := zX zq2
       have q309 : x5_1 < (l1.length : Int) := zX zq2
       obtain ⟨ad309, e309, hx309_0, hx309_1, hx309_2⟩ := at_T65 HR1.out x5_1 p309 q309
       have hw309_2 := hx309_2
       have hw309_1 := hx309_1
       have hw309_0 := hx309_0
       cases e309
       replace hx309_0 := (HB.out.cell (zL w _ hx309_0)).trans hx309_0
       replace hx309_1 := (HB.out.cell (zL w _ hx309_1)).trans hx309_1
       replace hx309_2 := (HB.out.cell (zL w _ hx309_2)).trans hx309_2
       replace p309 := eq_true p309
       replace q309 := eq_true q309
       refine start_ (n := 10) (S := fun w' => w'.cell? (ad308.add ((x5_1).toNat * 3)) = some (.string ((rd_T65 l0 x5_1).f0)) ∧ w'.cell? ⟨(ad308.add ((x5_1).toNat * 3)).block, (ad308.add ((x5_1).toNat * 3)).off + 1, none⟩ = some (.int .i64 ((rd_T65 l0 x5_1).f1)) ∧ w'.cell? ⟨(ad308.add ((x5_1).toNat * 3)).block, (ad308.add ((x5_1).toNat * 3)).off + 2, none⟩ = some (.string ((rd_T65 l0 x5_1).f2)) ∧ w'.cell? (ad309.add ((x5_1).toNat * 3)) = some (.string ((rd_T65 l1 x5_1).f0)) ∧ w'.cell? ⟨(ad309.add ((x5_1).toNat * 3)).block, (ad309.add ((x5_1).toNat * 3)).off + 1, none⟩ = some (.int .i64 ((rd_T65 l1 x5_1).f1)) ∧ w'.cell? ⟨(ad309.add ((x5_1).toNat * 3)).block, (ad309.add ((x5_1).toNat * 3)).off + 2, none⟩ = some (.string ((rd_T65 l1 x5_1).f2))) (ds := []) #[zF,zF,zF,zF,zF,zF,zF,zF,zF,zF] zq3 rfl rfl ⟨((HB.out.cell (zL w _ hw308_0)).trans hw308_0), ((HB.out.cell (zL w _ hw308_1)).trans hw308_1), ((HB.out.cell (zL w _ hw308_2)).trans hw308_2), ((HB.out.cell (zL w _ hw309_0)).trans hw309_0), ((HB.out.cell (zL w _ hw309_1)).trans hw309_1), ((HB.out.cell (zL w _ hw309_2)).trans hw309_2)⟩ (fun hHeld => ?_); refine with_tabW laws_eqObjectS.tab6 laws_eqObjectS.bits6 (fun HT_ HW_ => ?_)
       generalize wr.drew = w11 at HB hx308_0 hx308_1 hx308_2 hx309_0 hx309_1 hx309_2 hHeld ⊢
       refine pure_ (i := 0) (N := some 17) (v := ?_) (a' := ?_) #[zB,zF,zF,zF,zF,zF,zF,zF,zF,zF] rfl rfl (any_of HT_.out zq3) (fun _ _ _ h => h) (Or.inl ⟨by rfl, ?_⟩) ?_ ?_
       rotate_left
       ·
        intro w'
        go_simp
        with_reducible rfl
       rotate_left
       ·
        simp only [Act.put, zS, zT, zU, i64_w, i32_w]
        rfl
       refine pure_ (i := 1) (N := some 18) (v := ?_) (a' := ?_) #[zB,zB,zF,zF,zF,zF,zF,zF,zF,zF] rfl rfl (any_of HT_.out zq3) (fun _ _ _ h => h) (Or.inl ⟨by rfl, ?_⟩) ?_ ?_
       rotate_left
       ·
        intro w'
        go_simp
        with_reducible rfl
       rotate_left
       ·
        simp only [Act.put, zS, zT, zU, i64_w, i32_w]
        rfl
       refine pure_ (i := 2) (N := some 19) (v := ?_) (a' := ?_) #[zB,zB,zB,zF,zF,zF,zF,zF,zF,zF] rfl rfl (any_of HT_.out zq3) (fun _ _ _ h => h) (Or.inl ⟨by rfl, ?_⟩) ?_ ?_
       rotate_left
       ·
        intro w'
        go_simp
        with_reducible rfl
       rotate_left
       ·
        simp only [Act.put, zS, zT, zU, i64_w, i32_w]
        rfl
       refine pure_ (i := 4) (N := some 21) (v := ?_) (a' := ?_) #[zB,zB,zB,zF,zB,zF,zF,zF,zF,zF] rfl rfl (any_of HT_.out zq3) (fun _ _ _ h => h) (Or.inl ⟨by rfl, ?_⟩) ?_ ?_
       rotate_left
       ·
        intro w'
        go_simp
        with_reducible rfl
       rotate_left
       ·
        simp only [Act.put, zS, zT, zU, i64_w, i32_w]
        rfl
       refine pure_ (i := 5) (N := some 22) (v := ?_) (a' := ?_) #[zB,zB,zB,zF,zB,zB,zF,zF,zF,zF] rfl rfl (any_of HT_.out zq3) (fun _ _ _ h => h) (Or.inl ⟨by rfl, ?_⟩) ?_ ?_
       rotate_left
       ·
        intro w'
        go_simp
        with_reducible rfl
       rotate_left
       ·
        simp only [Act.put, zS, zT, zU, i64_w, i32_w]
        rfl
       refine pure_ (i := 6) (N := some 23) (v := ?_) (a' := ?_) #[zB,zB,zB,zF,zB,zB,zB,zF,zF,zF] rfl rfl (any_of HT_.out zq3) (fun _ _ _ h => h) (Or.inl ⟨by rfl, ?_⟩) ?_ ?_
       rotate_left
       ·
        intro w'
        go_simp
        with_reducible rfl
       rotate_left
       ·
        simp only [Act.put, zS, zT, zU, i64_w, i32_w]
        rfl
       refine take_ (i := 3) (N := some 20) (v := ?_) (a' := ?_) #[zB,zB,zB,zB,zB,zB,zB,zF,zF,zF] rfl rfl (take_ofW HT_.out HW_.out zq3) (fun _ _ _ h => h) (Or.inl ⟨by rfl, ?_⟩) hHeld ?_ ?_
       rotate_left
       ·
        rintro w' ⟨s0, s1, s2, s3, s4, s5⟩
        go_simp
        with_reducible rfl
       rotate_left
       ·
        simp only [Act.put, zS, zT, zU, i64_w, i32_w]
        rfl
       refine take_ (i := 7) (N := some 24) (v := ?_) (a' := ?_) #[zB,zB,zB,zB,zB,zB,zB,zB,zF,zF] rfl rfl (take_ofW HT_.out HW_.out zq3) (fun _ _ _ h => h) (Or.inl ⟨by rfl, ?_⟩) hHeld ?_ ?_
       rotate_left
       ·
        rintro w' ⟨s0, s1, s2, s3, s4, s5⟩
        go_simp
        with_reducible rfl
       rotate_left
       ·
        simp only [Act.put, zS, zT, zU, i64_w, i32_w]
        rfl
       refine one_ (i := 8) (N := some 25) #[zB,zB,zB,zB,zB,zB,zB,zB,zB,zF] rfl rfl (one_of HT_.out zq3) zq13 (fun K hK => ?_)
       refine goes_ Tryz.func45 zq3 rfl #[.agg #[.string ((rd_T65 l0 x5_1).f0), .int .i64 ((rd_T65 l0 x5_1).f1), .string ((rd_T65 l0 x5_1).f2)], .agg #[.string ((rd_T65 l1 x5_1).f0), .int .i64 ((rd_T65 l1 x5_1).f1), .string ((rd_T65 l1 x5_1).f2)]] zq28 rfl rfl zq1 ?_
       with_reducible refine (laws_eqObject.calls ((rd_T65 l0 x5_1).f0) ((rd_T65 l0 x5_1).f1) ((rd_T65 l0 x5_1).f2) ((rd_T65 l1 x5_1).f0) ((rd_T65 l1 x5_1).f1) ((rd_T65 l1 x5_1).f2) false _ A7.out).mono ?_
       rintro e w12 ⟨rfl, hb⟩
       refine ⟨_, rfl, ?_⟩
       have n0_ := zK (below_step zq0 hb)
       clear HB
       have HB := n0_
       clear n0_
       (try clear hb)
       (try clear hb2)
       (try clear hk)
       (try clear hi)
       refine hK.out _ _ ⟨((HB.out.cell (zL w _ hw308_0)).trans hw308_0), ((HB.out.cell (zL w _ hw308_1)).trans hw308_1), ((HB.out.cell (zL w _ hw308_2)).trans hw308_2), ((HB.out.cell (zL w _ hw309_0)).trans hw309_0), ((HB.out.cell (zL w _ hw309_1)).trans hw309_1), ((HB.out.cell (zL w _ hw309_2)).trans hw309_2)⟩ (fun hHeld => ?_)
       clear hK K
       refine norm_ (a' := ?_) ?_ ?_
       rotate_left
       ·
        show Act.put _ (some 25) _ = _
        simp only [Act.put, zS, zT, zU, i64_w, i32_w]
        rfl
       refine pure_ (i := 9) (N := some 26) (v := ?_) (a' := ?_) #[zB,zB,zB,zB,zB,zB,zB,zB,zB,zB] rfl rfl (any_of HT_.out zq3) (fun _ _ _ h => h) (Or.inl ⟨by rfl, ?_⟩) ?_ ?_
       rotate_left
       ·
        intro w'
        go_simp
        with_reducible rfl
       rotate_left
       ·
        simp only [Act.put, zS, zT, zU, i64_w, i32_w]
        rfl
       refine done_ (done_of HT_.out zq3) ?_
       try go_wp2
       go_ret
       exact ⟨zq5, zq0⟩
      rw [if_neg c6] at H
      exact absurd H zq16
     rw [if_neg c5] at H
     exact absurd H zq16
    rw [if_neg c4] at H
    have c4b0 : decide (x5_1 < (l0.length : Int)) = false := decide_eq_false c4
    clear c4
    obtain rfl := Option.some.inj H
    go_wp2
    go_ret
    exact ⟨zq5, zq0⟩
 rw [if_neg c3] at H
 have c3b0 : ((l0.length : Int) == (l1.length : Int)) = false := beq_eq_false_iff_ne.mpr c3
 have c3b1 : ((l0.length : Int) != (l1.length : Int)) = true := bne_iff_ne.mpr c3
 have c3b2 : (l0.length == l1.length) = false := by first | simpa using c3 | (simp at c3 ⊢; omega)
 obtain rfl := Option.some.inj H
 go_enter Tryz.func13, Tryz.ntmps13
 go_wp2
 go_ret
 exact ⟨zq5, zq0⟩
end Go.Proofs.YtkjgnnhpjcofiaaGreatDoor.PX
