/- Texts of this claim set one behind another by wip/bundle.py: XMarkD, PXf56, PXf16, XHeldD, PXf57, PXf17. -/
import Derived.Test.YtjibadlbiapcmaaGreatDoorBDF11
import Derived.Test.YtjibadlbiapcmaaGreatDoorBDF9
import Derived.Test.YtjibadlbiapcmaaGreatDoorBDF12
import Derived.IntWalk
import Derived.Lib.Hide
import Derived.Deep.RegionHeld3
namespace Go.Proofs.YtjibadlbiapcmaaGreatDoor.PX.X
open Go Go.RowKit Go.Lib Go.Proofs.YtjibadlbiapcmaaGreatDoorW.PrintWords Go.Proofs.YtjibadlbiapcmaaGreatDoor.PX
set_option linter.unusedVariables false
set_option linter.unusedSimpArgs false
abbrev DT := S77
def cellsD (x : DT) : List Value := [.string x.f0, .string x.f1.f0, .int .i64 x.f1.f1, .string x.f1.f2, .string x.f2.f0, .int .i64 x.f2.f1, .string x.f2.f2]
theorem dCells {W : World} {B g n cap : Nat} {ok : Nat → Prop} {l : List DT} {jj : Nat} (O : Kd.R k77 77 W B ok (.slice (some ⟨g, 0, none⟩) n cap) l) (hj : jj < n) (x : DT) (hx : l.getD jj z77 = x) (off : Nat) (v : Value) (hv : (cellsD x)[off]? = some v) : W.cell? ⟨g, jj * 7 + off, none⟩ = some v ∧ W.frozen? ⟨g, jj * 7 + off, none⟩ = false := by
  obtain ⟨c, hcl, hM, hcc, hfr⟩ := Kd.R_elem O z77 (jj : Int) (by omega) (by omega)
  rw [Int.toNat_natCast] at hM hcc hfr
  rw [hx] at hM
  obtain rfl := k77_openM hM
  exact ⟨hcc off v hv, hfr off⟩
theorem dStep {W : World} {B g n cap : Nat} {ok : Nat → Prop} {l : List DT} {jj : Nat} (O : Kd.R k77 77 W B ok (.slice (some ⟨g, 0, none⟩) n cap) l) (hj : jj < n) (x : DT) (hx : l.getD jj z77 = x) (off : Nat) (v : Value) (x' : DT) (hoff : off < 7) (hset : (cellsD x).take off ++ [v] ++ (cellsD x).drop (off + 1) = cellsD x') : Kd.R k77 77 (W.setCell ⟨g, jj * 7 + off, none⟩ v) B ok (.slice (some ⟨g, 0, none⟩) n cap) (l.set jj x') ∧ W.grownBy (W.setCell ⟨g, jj * 7 + off, none⟩ v) (some g) := by
  obtain ⟨c, hcl, hM, hcc, hfr⟩ := Kd.R_elem O z77 (jj : Int) (by omega) (by omega)
  have hM2 := hM
  rw [Int.toNat_natCast, hx] at hM2
  obtain rfl := k77_openM hM2
  have h := Kd.R_seg O (jj : Int) (by omega) (by omega) (seg := [v]) (j := off) hcl hcc (by show off + 1 ≤ 7; omega) (x' := x') (okp := fun _ => False) (by
    have e : (cellsD x).take off ++ [v] ++ (cellsD x).drop (off + [v].length) = cellsD x' := hset
    show Kd.M k77 W B _ x' ((cellsD x).take off ++ [v] ++ (cellsD x).drop (off + [v].length))
    rw [e]
    exact k77_mkM W B _ x') (fun _ hk => hk.elim)
  rw [Int.toNat_natCast] at h
  exact h
def dMark (n : Nat) : DT := ⟨YtjibadlbiapcmaaGreatDoorX.markT n, ⟨YtjibadlbiapcmaaGreatDoorX.markT (n + 1), ((n + 2 : Nat) : Int), YtjibadlbiapcmaaGreatDoorX.markT (n + 3)⟩, ⟨YtjibadlbiapcmaaGreatDoorX.markT (n + 4), ((n + 5 : Nat) : Int), YtjibadlbiapcmaaGreatDoorX.markT (n + 6)⟩⟩
def dMarks (n L : Nat) : List DT := (List.range L).map fun j => dMark (n + 7 * j)
theorem getD_set_same (l : List DT) (i : Nat) (x : DT) (h : i < l.length) : (l.set i x).getD i z77 = x := by
  rw [List.getD_eq_getElem?_getD, List.getElem?_set_self h, Option.getD_some]
theorem marks_step (n L jj : Nat) (rest : List DT) (y : DT) (h : jj < L) : (dMarks n jj ++ y :: rest).set jj (dMark (n + 7 * jj)) = dMarks n (jj + 1) ++ rest := by
  have hl : (dMarks n jj).length = jj := by unfold dMarks; rw [List.length_map, List.length_range]
  have e : dMarks n (jj + 1) = dMarks n jj ++ [dMark (n + 7 * jj)] := by
    unfold dMarks
    rw [List.range_succ, List.map_append]
    rfl
  rw [e, List.set_append_right _ _ (by omega), hl, Nat.sub_self, List.set_cons_zero, List.append_assoc]
  rfl
set_option maxHeartbeats 1000000 in
set_option maxRecDepth 8000 in
theorem markD_calls (P0 : Nat → Prop) (A : Option Addr) (cap : Nat) (l0 : List DT) (n0 : Nat) (w0 w : World) (hB : Below w0.heap.size w0 w) (ho : Kd.R k77 77 w w0.heap.size (fun k => P0 k ∨ w.heap.size ≤ k) (.slice A l0.length cap) l0) (hn : n0 + 7 * l0.length ≤ 9223372036854775800) :
    Calls Tryz.prog 56 #[.slice A l0.length cap, .int .i64 n0] w fun e w' => e = .returned (.int .i64 ((n0 + 7 * l0.length : Nat) : Int)) ∧ Kd.R k77 77 w' w0.heap.size (fun k => P0 k ∨ w.heap.size ≤ k) (.slice A l0.length cap) (dMarks n0 l0.length) ∧ Below w0.heap.size w0 w' ∧ Kept w w' (fun k => P0 k) := by
  have HO := Lib.hid ho
  have HB := Lib.hid hB
  have HN := Lib.hid hn
  have HK := Lib.hid (Kept.refl w (fun k => P0 k))
  clear ho hB hn
  go_enter Tryz.func56, Tryz.ntmps56
  go_wp2
  go_loopg [1, 5] l0.length (fun gg s1 s5 wr => ∃ (jj a0 : Nat), jj ≤ l0.length ∧ l0.length - jj ≤ gg ∧ s1 = .int .i64 a0 ∧ s5 = .int .i64 jj ∧ Aside (a0 = n0 + 7 * jj) ∧ Aside (Kd.R k77 77 wr w0.heap.size (fun k => P0 k ∨ w.heap.size ≤ k) (.slice A l0.length cap) (dMarks n0 jj ++ l0.drop jj)) ∧ Aside (Below w0.heap.size w0 wr) ∧ Aside (Kept w wr (fun k => P0 k)))
  case atStart => exact ⟨0, n0, Nat.zero_le _, by omega, rfl, rfl, (show n0 = n0 + 7 * 0 by omega), HO.out, HB.out, HK.out⟩
  case round =>
    obtain ⟨jj, a0, hjj, hgm, rfl, rfl, A0, AO, AB, AK⟩ := hrel
    clear HO HB HK
    have hjz : (0 : Int) ≤ (jj : Int) := by omega
    by_cases hlt : jj < l0.length
    · have hltz : (jj : Int) < (l0.length : Int) := by omega
      have hdrop : l0.drop jj = l0[jj] :: l0.drop (jj + 1) := List.drop_eq_getElem_cons hlt
      have o0 := AO.out
      obtain ⟨g, cap1, hv1, hg0, _⟩ := Kd.R_form o0 (by rw [List.length_append, List.length_drop]; omega)
      have hA : A = some ⟨g, 0, none⟩ := by injection hv1
      subst hA
      clear hv1
      have hPg := o0.1 g rfl
      rw [hdrop] at o0
      have hml : (dMarks n0 jj).length = jj := by unfold dMarks; rw [List.length_map, List.length_range]
      have hg : (dMarks n0 jj ++ l0[jj] :: l0.drop (jj + 1)).getD jj z77 = l0[jj] := by
        rw [List.getD_eq_getElem?_getD, List.getElem?_append_right (by omega), hml, Nat.sub_self]
        rfl
      have hll : jj < (dMarks n0 jj ++ l0[jj] :: l0.drop (jj + 1)).length := by
        rw [List.length_append, List.length_cons, hml]
        omega
      have hend := marks_step n0 l0.length jj (l0.drop (jj + 1)) l0[jj] hlt
      generalize l0[jj] = y at o0 hg hll hend
      generalize dMarks n0 jj ++ y :: l0.drop (jj + 1) = L0 at o0 hg hll hend
      have HE := Lib.hid hend
      have HL0 := Lib.hid hll
      have HG0 := Lib.hid hg
      have R0 := Lib.hid o0
      clear hend hll hg o0 hdrop hml AO
      obtain ⟨a1, e1⟩ : ∃ a1, a1 = a0 + 1 := ⟨_, rfl⟩
      have hw0 : IntKind.i64.wrap ((a0 : Int) + 1) = (a1 : Int) := (IntWalk.i64_in _ (by have h1 := HN.out; have h2 := A0.out; omega)).trans (by omega)
      obtain ⟨a2, e2⟩ : ∃ a2, a2 = a1 + 1 := ⟨_, rfl⟩
      have hw1 : IntKind.i64.wrap ((a1 : Int) + 1) = (a2 : Int) := (IntWalk.i64_in _ (by have h1 := HN.out; have h2 := A0.out; omega)).trans (by omega)
      obtain ⟨a3, e3⟩ : ∃ a3, a3 = a2 + 1 := ⟨_, rfl⟩
      have hw2 : IntKind.i64.wrap ((a2 : Int) + 1) = (a3 : Int) := (IntWalk.i64_in _ (by have h1 := HN.out; have h2 := A0.out; omega)).trans (by omega)
      obtain ⟨a4, e4⟩ : ∃ a4, a4 = a3 + 1 := ⟨_, rfl⟩
      have hw3 : IntKind.i64.wrap ((a3 : Int) + 1) = (a4 : Int) := (IntWalk.i64_in _ (by have h1 := HN.out; have h2 := A0.out; omega)).trans (by omega)
      obtain ⟨a5, e5⟩ : ∃ a5, a5 = a4 + 1 := ⟨_, rfl⟩
      have hw4 : IntKind.i64.wrap ((a4 : Int) + 1) = (a5 : Int) := (IntWalk.i64_in _ (by have h1 := HN.out; have h2 := A0.out; omega)).trans (by omega)
      obtain ⟨a6, e6⟩ : ∃ a6, a6 = a5 + 1 := ⟨_, rfl⟩
      have hw5 : IntKind.i64.wrap ((a5 : Int) + 1) = (a6 : Int) := (IntWalk.i64_in _ (by have h1 := HN.out; have h2 := A0.out; omega)).trans (by omega)
      obtain ⟨a7, e7⟩ : ∃ a7, a7 = a6 + 1 := ⟨_, rfl⟩
      have hw6 : IntKind.i64.wrap ((a6 : Int) + 1) = (a7 : Int) := (IntWalk.i64_in _ (by have h1 := HN.out; have h2 := A0.out; omega)).trans (by omega)
      have hm0 : laws_markText.f 21 (a0 : Int) = some (YtjibadlbiapcmaaGreatDoorX.markT a0) := YtjibadlbiapcmaaGreatDoorX.markText_tells a0 (by have h1 := HN.out; have h2 := A0.out; omega) 21 (Nat.le_refl _)
      have HM0 := Lib.hid hm0
      clear hm0
      have hm1 : laws_markText.f 21 (a1 : Int) = some (YtjibadlbiapcmaaGreatDoorX.markT a1) := YtjibadlbiapcmaaGreatDoorX.markText_tells a1 (by have h1 := HN.out; have h2 := A0.out; omega) 21 (Nat.le_refl _)
      have HM1 := Lib.hid hm1
      clear hm1
      have hm3 : laws_markText.f 21 (a3 : Int) = some (YtjibadlbiapcmaaGreatDoorX.markT a3) := YtjibadlbiapcmaaGreatDoorX.markText_tells a3 (by have h1 := HN.out; have h2 := A0.out; omega) 21 (Nat.le_refl _)
      have HM3 := Lib.hid hm3
      clear hm3
      have hm4 : laws_markText.f 21 (a4 : Int) = some (YtjibadlbiapcmaaGreatDoorX.markT a4) := YtjibadlbiapcmaaGreatDoorX.markText_tells a4 (by have h1 := HN.out; have h2 := A0.out; omega) 21 (Nat.le_refl _)
      have HM4 := Lib.hid hm4
      clear hm4
      have hm6 : laws_markText.f 21 (a6 : Int) = some (YtjibadlbiapcmaaGreatDoorX.markT a6) := YtjibadlbiapcmaaGreatDoorX.markText_tells a6 (by have h1 := HN.out; have h2 := A0.out; omega) 21 (Nat.le_refl _)
      have HM6 := Lib.hid hm6
      clear hm6
      have HE1 := Lib.hid e1
      clear e1
      have HE2 := Lib.hid e2
      clear e2
      have HE3 := Lib.hid e3
      clear e3
      have HE4 := Lib.hid e4
      clear e4
      have HE5 := Lib.hid e5
      clear e5
      have HE6 := Lib.hid e6
      clear e6
      have HE7 := Lib.hid e7
      clear e7
      have hwj : IntKind.i64.wrap ((jj : Int) + 1) = (jj : Int) + 1 := IntWalk.i64_in _ (by have h1 := HN.out; omega)
      go_wp2_with (first | (go_at_call 55; (with_reducible refine (laws_markText.calls 21 (a0 : Int) (YtjibadlbiapcmaaGreatDoorX.markT a0) _ HM0.out).mono ?_); rintro e W0 ⟨rfl, hb0⟩; have RR0 := Lib.hid (Kd.R_below R0.out hb0); have BB0 := Lib.hid (below_step AB.out hb0); have KK0 := Lib.hid (Kept.below (S := (fun k => P0 k)) AK.out hb0); have HG0' := HG0; have hc0 : W0.cell? ⟨g, jj * 7, none⟩ = some (.string (y.f0)) := (dCells RR0.out hlt y HG0.out 0 _ rfl).1; have hf0 : W0.frozen? ⟨g, jj * 7, none⟩ = false := (dCells RR0.out hlt y HG0.out 0 _ rfl).2; clear hb0) | (go_at_call 55; (with_reducible refine (laws_markText.calls 21 (a1 : Int) (YtjibadlbiapcmaaGreatDoorX.markT a1) _ HM1.out).mono ?_); rintro e W1 ⟨rfl, hb1⟩; have S0 : Kd.R k77 77 (W0.setCell ⟨g, jj * 7, none⟩ (.string (YtjibadlbiapcmaaGreatDoorX.markT a0))) w0.heap.size (fun k => P0 k ∨ w.heap.size ≤ k) (.slice (some ⟨g, 0, none⟩) l0.length cap) (L0.set jj (⟨(YtjibadlbiapcmaaGreatDoorX.markT a0), ⟨y.f1.f0, y.f1.f1, y.f1.f2⟩, ⟨y.f2.f0, y.f2.f1, y.f2.f2⟩⟩ : DT)) ∧ World.grownBy W0 (W0.setCell ⟨g, jj * 7, none⟩ (.string (YtjibadlbiapcmaaGreatDoorX.markT a0))) (some g) := dStep RR0.out hlt y HG0.out 0 _ (⟨(YtjibadlbiapcmaaGreatDoorX.markT a0), ⟨y.f1.f0, y.f1.f1, y.f1.f2⟩, ⟨y.f2.f0, y.f2.f1, y.f2.f2⟩⟩ : DT) (by decide) rfl; have HL1 := Lib.hid (show jj < (L0.set jj (⟨(YtjibadlbiapcmaaGreatDoorX.markT a0), ⟨y.f1.f0, y.f1.f1, y.f1.f2⟩, ⟨y.f2.f0, y.f2.f1, y.f2.f2⟩⟩ : DT)).length by rw [List.length_set]; exact HL0.out); have HG1 := Lib.hid (getD_set_same L0 jj (⟨(YtjibadlbiapcmaaGreatDoorX.markT a0), ⟨y.f1.f0, y.f1.f1, y.f1.f2⟩, ⟨y.f2.f0, y.f2.f1, y.f2.f2⟩⟩ : DT) HL0.out); have RR1 := Lib.hid (Kd.R_below S0.1 hb1); have BB1 := Lib.hid (below_step (below_set (BB0.out) hg0) hb1); have KK1 := Lib.hid (Kept.below (S := (fun k => P0 k)) (Kept.of_grown (S := (fun k => P0 k)) S0.2 (KK0.out) (fun k e_ => (Option.some.inj e_) ▸ hPg)) hb1); clear S0; have hc1 : W1.cell? ⟨g, jj * 7 + 1, none⟩ = some (.string (y.f1.f0)) := (dCells RR1.out hlt (⟨(YtjibadlbiapcmaaGreatDoorX.markT a0), ⟨y.f1.f0, y.f1.f1, y.f1.f2⟩, ⟨y.f2.f0, y.f2.f1, y.f2.f2⟩⟩ : DT) HG1.out 1 _ rfl).1; have hf1 : W1.frozen? ⟨g, jj * 7 + 1, none⟩ = false := (dCells RR1.out hlt (⟨(YtjibadlbiapcmaaGreatDoorX.markT a0), ⟨y.f1.f0, y.f1.f1, y.f1.f2⟩, ⟨y.f2.f0, y.f2.f1, y.f2.f2⟩⟩ : DT) HG1.out 1 _ rfl).2; have hc2 : W1.cell? ⟨g, jj * 7 + 2, none⟩ = some (.int .i64 (y.f1.f1)) := (dCells RR1.out hlt (⟨(YtjibadlbiapcmaaGreatDoorX.markT a0), ⟨y.f1.f0, y.f1.f1, y.f1.f2⟩, ⟨y.f2.f0, y.f2.f1, y.f2.f2⟩⟩ : DT) HG1.out 2 _ rfl).1; have hf2 : W1.frozen? ⟨g, jj * 7 + 2, none⟩ = false := (dCells RR1.out hlt (⟨(YtjibadlbiapcmaaGreatDoorX.markT a0), ⟨y.f1.f0, y.f1.f1, y.f1.f2⟩, ⟨y.f2.f0, y.f2.f1, y.f2.f2⟩⟩ : DT) HG1.out 2 _ rfl).2; clear hb1) | (go_at_call 55; (with_reducible refine (laws_markText.calls 21 (a3 : Int) (YtjibadlbiapcmaaGreatDoorX.markT a3) _ HM3.out).mono ?_); rintro e W3 ⟨rfl, hb3⟩; have S1 : Kd.R k77 77 (W1.setCell ⟨g, jj * 7 + 1, none⟩ (.string (YtjibadlbiapcmaaGreatDoorX.markT a1))) w0.heap.size (fun k => P0 k ∨ w.heap.size ≤ k) (.slice (some ⟨g, 0, none⟩) l0.length cap) ((L0.set jj (⟨(YtjibadlbiapcmaaGreatDoorX.markT a0), ⟨y.f1.f0, y.f1.f1, y.f1.f2⟩, ⟨y.f2.f0, y.f2.f1, y.f2.f2⟩⟩ : DT)).set jj (⟨(YtjibadlbiapcmaaGreatDoorX.markT a0), ⟨(YtjibadlbiapcmaaGreatDoorX.markT a1), y.f1.f1, y.f1.f2⟩, ⟨y.f2.f0, y.f2.f1, y.f2.f2⟩⟩ : DT)) ∧ World.grownBy W1 (W1.setCell ⟨g, jj * 7 + 1, none⟩ (.string (YtjibadlbiapcmaaGreatDoorX.markT a1))) (some g) := dStep RR1.out hlt (⟨(YtjibadlbiapcmaaGreatDoorX.markT a0), ⟨y.f1.f0, y.f1.f1, y.f1.f2⟩, ⟨y.f2.f0, y.f2.f1, y.f2.f2⟩⟩ : DT) HG1.out 1 _ (⟨(YtjibadlbiapcmaaGreatDoorX.markT a0), ⟨(YtjibadlbiapcmaaGreatDoorX.markT a1), y.f1.f1, y.f1.f2⟩, ⟨y.f2.f0, y.f2.f1, y.f2.f2⟩⟩ : DT) (by decide) rfl; have HL2 := Lib.hid (show jj < ((L0.set jj (⟨(YtjibadlbiapcmaaGreatDoorX.markT a0), ⟨y.f1.f0, y.f1.f1, y.f1.f2⟩, ⟨y.f2.f0, y.f2.f1, y.f2.f2⟩⟩ : DT)).set jj (⟨(YtjibadlbiapcmaaGreatDoorX.markT a0), ⟨(YtjibadlbiapcmaaGreatDoorX.markT a1), y.f1.f1, y.f1.f2⟩, ⟨y.f2.f0, y.f2.f1, y.f2.f2⟩⟩ : DT)).length by rw [List.length_set]; exact HL1.out); have HG2 := Lib.hid (getD_set_same (L0.set jj (⟨(YtjibadlbiapcmaaGreatDoorX.markT a0), ⟨y.f1.f0, y.f1.f1, y.f1.f2⟩, ⟨y.f2.f0, y.f2.f1, y.f2.f2⟩⟩ : DT)) jj (⟨(YtjibadlbiapcmaaGreatDoorX.markT a0), ⟨(YtjibadlbiapcmaaGreatDoorX.markT a1), y.f1.f1, y.f1.f2⟩, ⟨y.f2.f0, y.f2.f1, y.f2.f2⟩⟩ : DT) HL1.out); have S2 : Kd.R k77 77 ((W1.setCell ⟨g, jj * 7 + 1, none⟩ (.string (YtjibadlbiapcmaaGreatDoorX.markT a1))).setCell ⟨g, jj * 7 + 2, none⟩ (.int .i64 (a2 : Int))) w0.heap.size (fun k => P0 k ∨ w.heap.size ≤ k) (.slice (some ⟨g, 0, none⟩) l0.length cap) (((L0.set jj (⟨(YtjibadlbiapcmaaGreatDoorX.markT a0), ⟨y.f1.f0, y.f1.f1, y.f1.f2⟩, ⟨y.f2.f0, y.f2.f1, y.f2.f2⟩⟩ : DT)).set jj (⟨(YtjibadlbiapcmaaGreatDoorX.markT a0), ⟨(YtjibadlbiapcmaaGreatDoorX.markT a1), y.f1.f1, y.f1.f2⟩, ⟨y.f2.f0, y.f2.f1, y.f2.f2⟩⟩ : DT)).set jj (⟨(YtjibadlbiapcmaaGreatDoorX.markT a0), ⟨(YtjibadlbiapcmaaGreatDoorX.markT a1), ((a2 : Nat) : Int), y.f1.f2⟩, ⟨y.f2.f0, y.f2.f1, y.f2.f2⟩⟩ : DT)) ∧ World.grownBy (W1.setCell ⟨g, jj * 7 + 1, none⟩ (.string (YtjibadlbiapcmaaGreatDoorX.markT a1))) ((W1.setCell ⟨g, jj * 7 + 1, none⟩ (.string (YtjibadlbiapcmaaGreatDoorX.markT a1))).setCell ⟨g, jj * 7 + 2, none⟩ (.int .i64 (a2 : Int))) (some g) := dStep S1.1 hlt (⟨(YtjibadlbiapcmaaGreatDoorX.markT a0), ⟨(YtjibadlbiapcmaaGreatDoorX.markT a1), y.f1.f1, y.f1.f2⟩, ⟨y.f2.f0, y.f2.f1, y.f2.f2⟩⟩ : DT) HG2.out 2 _ (⟨(YtjibadlbiapcmaaGreatDoorX.markT a0), ⟨(YtjibadlbiapcmaaGreatDoorX.markT a1), ((a2 : Nat) : Int), y.f1.f2⟩, ⟨y.f2.f0, y.f2.f1, y.f2.f2⟩⟩ : DT) (by decide) rfl; have HL3 := Lib.hid (show jj < (((L0.set jj (⟨(YtjibadlbiapcmaaGreatDoorX.markT a0), ⟨y.f1.f0, y.f1.f1, y.f1.f2⟩, ⟨y.f2.f0, y.f2.f1, y.f2.f2⟩⟩ : DT)).set jj (⟨(YtjibadlbiapcmaaGreatDoorX.markT a0), ⟨(YtjibadlbiapcmaaGreatDoorX.markT a1), y.f1.f1, y.f1.f2⟩, ⟨y.f2.f0, y.f2.f1, y.f2.f2⟩⟩ : DT)).set jj (⟨(YtjibadlbiapcmaaGreatDoorX.markT a0), ⟨(YtjibadlbiapcmaaGreatDoorX.markT a1), ((a2 : Nat) : Int), y.f1.f2⟩, ⟨y.f2.f0, y.f2.f1, y.f2.f2⟩⟩ : DT)).length by rw [List.length_set]; exact HL2.out); have HG3 := Lib.hid (getD_set_same ((L0.set jj (⟨(YtjibadlbiapcmaaGreatDoorX.markT a0), ⟨y.f1.f0, y.f1.f1, y.f1.f2⟩, ⟨y.f2.f0, y.f2.f1, y.f2.f2⟩⟩ : DT)).set jj (⟨(YtjibadlbiapcmaaGreatDoorX.markT a0), ⟨(YtjibadlbiapcmaaGreatDoorX.markT a1), y.f1.f1, y.f1.f2⟩, ⟨y.f2.f0, y.f2.f1, y.f2.f2⟩⟩ : DT)) jj (⟨(YtjibadlbiapcmaaGreatDoorX.markT a0), ⟨(YtjibadlbiapcmaaGreatDoorX.markT a1), ((a2 : Nat) : Int), y.f1.f2⟩, ⟨y.f2.f0, y.f2.f1, y.f2.f2⟩⟩ : DT) HL2.out); have RR3 := Lib.hid (Kd.R_below S2.1 hb3); have BB3 := Lib.hid (below_step (below_set ((below_set (BB1.out) hg0)) hg0) hb3); have KK3 := Lib.hid (Kept.below (S := (fun k => P0 k)) (Kept.of_grown (S := (fun k => P0 k)) S2.2 ((Kept.of_grown (S := (fun k => P0 k)) S1.2 (KK1.out) (fun k e_ => (Option.some.inj e_) ▸ hPg))) (fun k e_ => (Option.some.inj e_) ▸ hPg)) hb3); clear S1; clear S2; have hc3 : W3.cell? ⟨g, jj * 7 + 3, none⟩ = some (.string (y.f1.f2)) := (dCells RR3.out hlt (⟨(YtjibadlbiapcmaaGreatDoorX.markT a0), ⟨(YtjibadlbiapcmaaGreatDoorX.markT a1), ((a2 : Nat) : Int), y.f1.f2⟩, ⟨y.f2.f0, y.f2.f1, y.f2.f2⟩⟩ : DT) HG3.out 3 _ rfl).1; have hf3 : W3.frozen? ⟨g, jj * 7 + 3, none⟩ = false := (dCells RR3.out hlt (⟨(YtjibadlbiapcmaaGreatDoorX.markT a0), ⟨(YtjibadlbiapcmaaGreatDoorX.markT a1), ((a2 : Nat) : Int), y.f1.f2⟩, ⟨y.f2.f0, y.f2.f1, y.f2.f2⟩⟩ : DT) HG3.out 3 _ rfl).2; clear hb3) | (go_at_call 55; (with_reducible refine (laws_markText.calls 21 (a4 : Int) (YtjibadlbiapcmaaGreatDoorX.markT a4) _ HM4.out).mono ?_); rintro e W4 ⟨rfl, hb4⟩; have S3 : Kd.R k77 77 (W3.setCell ⟨g, jj * 7 + 3, none⟩ (.string (YtjibadlbiapcmaaGreatDoorX.markT a3))) w0.heap.size (fun k => P0 k ∨ w.heap.size ≤ k) (.slice (some ⟨g, 0, none⟩) l0.length cap) ((((L0.set jj (⟨(YtjibadlbiapcmaaGreatDoorX.markT a0), ⟨y.f1.f0, y.f1.f1, y.f1.f2⟩, ⟨y.f2.f0, y.f2.f1, y.f2.f2⟩⟩ : DT)).set jj (⟨(YtjibadlbiapcmaaGreatDoorX.markT a0), ⟨(YtjibadlbiapcmaaGreatDoorX.markT a1), y.f1.f1, y.f1.f2⟩, ⟨y.f2.f0, y.f2.f1, y.f2.f2⟩⟩ : DT)).set jj (⟨(YtjibadlbiapcmaaGreatDoorX.markT a0), ⟨(YtjibadlbiapcmaaGreatDoorX.markT a1), ((a2 : Nat) : Int), y.f1.f2⟩, ⟨y.f2.f0, y.f2.f1, y.f2.f2⟩⟩ : DT)).set jj (⟨(YtjibadlbiapcmaaGreatDoorX.markT a0), ⟨(YtjibadlbiapcmaaGreatDoorX.markT a1), ((a2 : Nat) : Int), (YtjibadlbiapcmaaGreatDoorX.markT a3)⟩, ⟨y.f2.f0, y.f2.f1, y.f2.f2⟩⟩ : DT)) ∧ World.grownBy W3 (W3.setCell ⟨g, jj * 7 + 3, none⟩ (.string (YtjibadlbiapcmaaGreatDoorX.markT a3))) (some g) := dStep RR3.out hlt (⟨(YtjibadlbiapcmaaGreatDoorX.markT a0), ⟨(YtjibadlbiapcmaaGreatDoorX.markT a1), ((a2 : Nat) : Int), y.f1.f2⟩, ⟨y.f2.f0, y.f2.f1, y.f2.f2⟩⟩ : DT) HG3.out 3 _ (⟨(YtjibadlbiapcmaaGreatDoorX.markT a0), ⟨(YtjibadlbiapcmaaGreatDoorX.markT a1), ((a2 : Nat) : Int), (YtjibadlbiapcmaaGreatDoorX.markT a3)⟩, ⟨y.f2.f0, y.f2.f1, y.f2.f2⟩⟩ : DT) (by decide) rfl; have HL4 := Lib.hid (show jj < ((((L0.set jj (⟨(YtjibadlbiapcmaaGreatDoorX.markT a0), ⟨y.f1.f0, y.f1.f1, y.f1.f2⟩, ⟨y.f2.f0, y.f2.f1, y.f2.f2⟩⟩ : DT)).set jj (⟨(YtjibadlbiapcmaaGreatDoorX.markT a0), ⟨(YtjibadlbiapcmaaGreatDoorX.markT a1), y.f1.f1, y.f1.f2⟩, ⟨y.f2.f0, y.f2.f1, y.f2.f2⟩⟩ : DT)).set jj (⟨(YtjibadlbiapcmaaGreatDoorX.markT a0), ⟨(YtjibadlbiapcmaaGreatDoorX.markT a1), ((a2 : Nat) : Int), y.f1.f2⟩, ⟨y.f2.f0, y.f2.f1, y.f2.f2⟩⟩ : DT)).set jj (⟨(YtjibadlbiapcmaaGreatDoorX.markT a0), ⟨(YtjibadlbiapcmaaGreatDoorX.markT a1), ((a2 : Nat) : Int), (YtjibadlbiapcmaaGreatDoorX.markT a3)⟩, ⟨y.f2.f0, y.f2.f1, y.f2.f2⟩⟩ : DT)).length by rw [List.length_set]; exact HL3.out); have HG4 := Lib.hid (getD_set_same (((L0.set jj (⟨(YtjibadlbiapcmaaGreatDoorX.markT a0), ⟨y.f1.f0, y.f1.f1, y.f1.f2⟩, ⟨y.f2.f0, y.f2.f1, y.f2.f2⟩⟩ : DT)).set jj (⟨(YtjibadlbiapcmaaGreatDoorX.markT a0), ⟨(YtjibadlbiapcmaaGreatDoorX.markT a1), y.f1.f1, y.f1.f2⟩, ⟨y.f2.f0, y.f2.f1, y.f2.f2⟩⟩ : DT)).set jj (⟨(YtjibadlbiapcmaaGreatDoorX.markT a0), ⟨(YtjibadlbiapcmaaGreatDoorX.markT a1), ((a2 : Nat) : Int), y.f1.f2⟩, ⟨y.f2.f0, y.f2.f1, y.f2.f2⟩⟩ : DT)) jj (⟨(YtjibadlbiapcmaaGreatDoorX.markT a0), ⟨(YtjibadlbiapcmaaGreatDoorX.markT a1), ((a2 : Nat) : Int), (YtjibadlbiapcmaaGreatDoorX.markT a3)⟩, ⟨y.f2.f0, y.f2.f1, y.f2.f2⟩⟩ : DT) HL3.out); have RR4 := Lib.hid (Kd.R_below S3.1 hb4); have BB4 := Lib.hid (below_step (below_set (BB3.out) hg0) hb4); have KK4 := Lib.hid (Kept.below (S := (fun k => P0 k)) (Kept.of_grown (S := (fun k => P0 k)) S3.2 (KK3.out) (fun k e_ => (Option.some.inj e_) ▸ hPg)) hb4); clear S3; have hc4 : W4.cell? ⟨g, jj * 7 + 4, none⟩ = some (.string (y.f2.f0)) := (dCells RR4.out hlt (⟨(YtjibadlbiapcmaaGreatDoorX.markT a0), ⟨(YtjibadlbiapcmaaGreatDoorX.markT a1), ((a2 : Nat) : Int), (YtjibadlbiapcmaaGreatDoorX.markT a3)⟩, ⟨y.f2.f0, y.f2.f1, y.f2.f2⟩⟩ : DT) HG4.out 4 _ rfl).1; have hf4 : W4.frozen? ⟨g, jj * 7 + 4, none⟩ = false := (dCells RR4.out hlt (⟨(YtjibadlbiapcmaaGreatDoorX.markT a0), ⟨(YtjibadlbiapcmaaGreatDoorX.markT a1), ((a2 : Nat) : Int), (YtjibadlbiapcmaaGreatDoorX.markT a3)⟩, ⟨y.f2.f0, y.f2.f1, y.f2.f2⟩⟩ : DT) HG4.out 4 _ rfl).2; have hc5 : W4.cell? ⟨g, jj * 7 + 5, none⟩ = some (.int .i64 (y.f2.f1)) := (dCells RR4.out hlt (⟨(YtjibadlbiapcmaaGreatDoorX.markT a0), ⟨(YtjibadlbiapcmaaGreatDoorX.markT a1), ((a2 : Nat) : Int), (YtjibadlbiapcmaaGreatDoorX.markT a3)⟩, ⟨y.f2.f0, y.f2.f1, y.f2.f2⟩⟩ : DT) HG4.out 5 _ rfl).1; have hf5 : W4.frozen? ⟨g, jj * 7 + 5, none⟩ = false := (dCells RR4.out hlt (⟨(YtjibadlbiapcmaaGreatDoorX.markT a0), ⟨(YtjibadlbiapcmaaGreatDoorX.markT a1), ((a2 : Nat) : Int), (YtjibadlbiapcmaaGreatDoorX.markT a3)⟩, ⟨y.f2.f0, y.f2.f1, y.f2.f2⟩⟩ : DT) HG4.out 5 _ rfl).2; clear hb4) | (go_at_call 55; (with_reducible refine (laws_markText.calls 21 (a6 : Int) (YtjibadlbiapcmaaGreatDoorX.markT a6) _ HM6.out).mono ?_); rintro e W6 ⟨rfl, hb6⟩; have S4 : Kd.R k77 77 (W4.setCell ⟨g, jj * 7 + 4, none⟩ (.string (YtjibadlbiapcmaaGreatDoorX.markT a4))) w0.heap.size (fun k => P0 k ∨ w.heap.size ≤ k) (.slice (some ⟨g, 0, none⟩) l0.length cap) (((((L0.set jj (⟨(YtjibadlbiapcmaaGreatDoorX.markT a0), ⟨y.f1.f0, y.f1.f1, y.f1.f2⟩, ⟨y.f2.f0, y.f2.f1, y.f2.f2⟩⟩ : DT)).set jj (⟨(YtjibadlbiapcmaaGreatDoorX.markT a0), ⟨(YtjibadlbiapcmaaGreatDoorX.markT a1), y.f1.f1, y.f1.f2⟩, ⟨y.f2.f0, y.f2.f1, y.f2.f2⟩⟩ : DT)).set jj (⟨(YtjibadlbiapcmaaGreatDoorX.markT a0), ⟨(YtjibadlbiapcmaaGreatDoorX.markT a1), ((a2 : Nat) : Int), y.f1.f2⟩, ⟨y.f2.f0, y.f2.f1, y.f2.f2⟩⟩ : DT)).set jj (⟨(YtjibadlbiapcmaaGreatDoorX.markT a0), ⟨(YtjibadlbiapcmaaGreatDoorX.markT a1), ((a2 : Nat) : Int), (YtjibadlbiapcmaaGreatDoorX.markT a3)⟩, ⟨y.f2.f0, y.f2.f1, y.f2.f2⟩⟩ : DT)).set jj (⟨(YtjibadlbiapcmaaGreatDoorX.markT a0), ⟨(YtjibadlbiapcmaaGreatDoorX.markT a1), ((a2 : Nat) : Int), (YtjibadlbiapcmaaGreatDoorX.markT a3)⟩, ⟨(YtjibadlbiapcmaaGreatDoorX.markT a4), y.f2.f1, y.f2.f2⟩⟩ : DT)) ∧ World.grownBy W4 (W4.setCell ⟨g, jj * 7 + 4, none⟩ (.string (YtjibadlbiapcmaaGreatDoorX.markT a4))) (some g) := dStep RR4.out hlt (⟨(YtjibadlbiapcmaaGreatDoorX.markT a0), ⟨(YtjibadlbiapcmaaGreatDoorX.markT a1), ((a2 : Nat) : Int), (YtjibadlbiapcmaaGreatDoorX.markT a3)⟩, ⟨y.f2.f0, y.f2.f1, y.f2.f2⟩⟩ : DT) HG4.out 4 _ (⟨(YtjibadlbiapcmaaGreatDoorX.markT a0), ⟨(YtjibadlbiapcmaaGreatDoorX.markT a1), ((a2 : Nat) : Int), (YtjibadlbiapcmaaGreatDoorX.markT a3)⟩, ⟨(YtjibadlbiapcmaaGreatDoorX.markT a4), y.f2.f1, y.f2.f2⟩⟩ : DT) (by decide) rfl; have HL5 := Lib.hid (show jj < (((((L0.set jj (⟨(YtjibadlbiapcmaaGreatDoorX.markT a0), ⟨y.f1.f0, y.f1.f1, y.f1.f2⟩, ⟨y.f2.f0, y.f2.f1, y.f2.f2⟩⟩ : DT)).set jj (⟨(YtjibadlbiapcmaaGreatDoorX.markT a0), ⟨(YtjibadlbiapcmaaGreatDoorX.markT a1), y.f1.f1, y.f1.f2⟩, ⟨y.f2.f0, y.f2.f1, y.f2.f2⟩⟩ : DT)).set jj (⟨(YtjibadlbiapcmaaGreatDoorX.markT a0), ⟨(YtjibadlbiapcmaaGreatDoorX.markT a1), ((a2 : Nat) : Int), y.f1.f2⟩, ⟨y.f2.f0, y.f2.f1, y.f2.f2⟩⟩ : DT)).set jj (⟨(YtjibadlbiapcmaaGreatDoorX.markT a0), ⟨(YtjibadlbiapcmaaGreatDoorX.markT a1), ((a2 : Nat) : Int), (YtjibadlbiapcmaaGreatDoorX.markT a3)⟩, ⟨y.f2.f0, y.f2.f1, y.f2.f2⟩⟩ : DT)).set jj (⟨(YtjibadlbiapcmaaGreatDoorX.markT a0), ⟨(YtjibadlbiapcmaaGreatDoorX.markT a1), ((a2 : Nat) : Int), (YtjibadlbiapcmaaGreatDoorX.markT a3)⟩, ⟨(YtjibadlbiapcmaaGreatDoorX.markT a4), y.f2.f1, y.f2.f2⟩⟩ : DT)).length by rw [List.length_set]; exact HL4.out); have HG5 := Lib.hid (getD_set_same ((((L0.set jj (⟨(YtjibadlbiapcmaaGreatDoorX.markT a0), ⟨y.f1.f0, y.f1.f1, y.f1.f2⟩, ⟨y.f2.f0, y.f2.f1, y.f2.f2⟩⟩ : DT)).set jj (⟨(YtjibadlbiapcmaaGreatDoorX.markT a0), ⟨(YtjibadlbiapcmaaGreatDoorX.markT a1), y.f1.f1, y.f1.f2⟩, ⟨y.f2.f0, y.f2.f1, y.f2.f2⟩⟩ : DT)).set jj (⟨(YtjibadlbiapcmaaGreatDoorX.markT a0), ⟨(YtjibadlbiapcmaaGreatDoorX.markT a1), ((a2 : Nat) : Int), y.f1.f2⟩, ⟨y.f2.f0, y.f2.f1, y.f2.f2⟩⟩ : DT)).set jj (⟨(YtjibadlbiapcmaaGreatDoorX.markT a0), ⟨(YtjibadlbiapcmaaGreatDoorX.markT a1), ((a2 : Nat) : Int), (YtjibadlbiapcmaaGreatDoorX.markT a3)⟩, ⟨y.f2.f0, y.f2.f1, y.f2.f2⟩⟩ : DT)) jj (⟨(YtjibadlbiapcmaaGreatDoorX.markT a0), ⟨(YtjibadlbiapcmaaGreatDoorX.markT a1), ((a2 : Nat) : Int), (YtjibadlbiapcmaaGreatDoorX.markT a3)⟩, ⟨(YtjibadlbiapcmaaGreatDoorX.markT a4), y.f2.f1, y.f2.f2⟩⟩ : DT) HL4.out); have S5 : Kd.R k77 77 ((W4.setCell ⟨g, jj * 7 + 4, none⟩ (.string (YtjibadlbiapcmaaGreatDoorX.markT a4))).setCell ⟨g, jj * 7 + 5, none⟩ (.int .i64 (a5 : Int))) w0.heap.size (fun k => P0 k ∨ w.heap.size ≤ k) (.slice (some ⟨g, 0, none⟩) l0.length cap) ((((((L0.set jj (⟨(YtjibadlbiapcmaaGreatDoorX.markT a0), ⟨y.f1.f0, y.f1.f1, y.f1.f2⟩, ⟨y.f2.f0, y.f2.f1, y.f2.f2⟩⟩ : DT)).set jj (⟨(YtjibadlbiapcmaaGreatDoorX.markT a0), ⟨(YtjibadlbiapcmaaGreatDoorX.markT a1), y.f1.f1, y.f1.f2⟩, ⟨y.f2.f0, y.f2.f1, y.f2.f2⟩⟩ : DT)).set jj (⟨(YtjibadlbiapcmaaGreatDoorX.markT a0), ⟨(YtjibadlbiapcmaaGreatDoorX.markT a1), ((a2 : Nat) : Int), y.f1.f2⟩, ⟨y.f2.f0, y.f2.f1, y.f2.f2⟩⟩ : DT)).set jj (⟨(YtjibadlbiapcmaaGreatDoorX.markT a0), ⟨(YtjibadlbiapcmaaGreatDoorX.markT a1), ((a2 : Nat) : Int), (YtjibadlbiapcmaaGreatDoorX.markT a3)⟩, ⟨y.f2.f0, y.f2.f1, y.f2.f2⟩⟩ : DT)).set jj (⟨(YtjibadlbiapcmaaGreatDoorX.markT a0), ⟨(YtjibadlbiapcmaaGreatDoorX.markT a1), ((a2 : Nat) : Int), (YtjibadlbiapcmaaGreatDoorX.markT a3)⟩, ⟨(YtjibadlbiapcmaaGreatDoorX.markT a4), y.f2.f1, y.f2.f2⟩⟩ : DT)).set jj (⟨(YtjibadlbiapcmaaGreatDoorX.markT a0), ⟨(YtjibadlbiapcmaaGreatDoorX.markT a1), ((a2 : Nat) : Int), (YtjibadlbiapcmaaGreatDoorX.markT a3)⟩, ⟨(YtjibadlbiapcmaaGreatDoorX.markT a4), ((a5 : Nat) : Int), y.f2.f2⟩⟩ : DT)) ∧ World.grownBy (W4.setCell ⟨g, jj * 7 + 4, none⟩ (.string (YtjibadlbiapcmaaGreatDoorX.markT a4))) ((W4.setCell ⟨g, jj * 7 + 4, none⟩ (.string (YtjibadlbiapcmaaGreatDoorX.markT a4))).setCell ⟨g, jj * 7 + 5, none⟩ (.int .i64 (a5 : Int))) (some g) := dStep S4.1 hlt (⟨(YtjibadlbiapcmaaGreatDoorX.markT a0), ⟨(YtjibadlbiapcmaaGreatDoorX.markT a1), ((a2 : Nat) : Int), (YtjibadlbiapcmaaGreatDoorX.markT a3)⟩, ⟨(YtjibadlbiapcmaaGreatDoorX.markT a4), y.f2.f1, y.f2.f2⟩⟩ : DT) HG5.out 5 _ (⟨(YtjibadlbiapcmaaGreatDoorX.markT a0), ⟨(YtjibadlbiapcmaaGreatDoorX.markT a1), ((a2 : Nat) : Int), (YtjibadlbiapcmaaGreatDoorX.markT a3)⟩, ⟨(YtjibadlbiapcmaaGreatDoorX.markT a4), ((a5 : Nat) : Int), y.f2.f2⟩⟩ : DT) (by decide) rfl; have HL6 := Lib.hid (show jj < ((((((L0.set jj (⟨(YtjibadlbiapcmaaGreatDoorX.markT a0), ⟨y.f1.f0, y.f1.f1, y.f1.f2⟩, ⟨y.f2.f0, y.f2.f1, y.f2.f2⟩⟩ : DT)).set jj (⟨(YtjibadlbiapcmaaGreatDoorX.markT a0), ⟨(YtjibadlbiapcmaaGreatDoorX.markT a1), y.f1.f1, y.f1.f2⟩, ⟨y.f2.f0, y.f2.f1, y.f2.f2⟩⟩ : DT)).set jj (⟨(YtjibadlbiapcmaaGreatDoorX.markT a0), ⟨(YtjibadlbiapcmaaGreatDoorX.markT a1), ((a2 : Nat) : Int), y.f1.f2⟩, ⟨y.f2.f0, y.f2.f1, y.f2.f2⟩⟩ : DT)).set jj (⟨(YtjibadlbiapcmaaGreatDoorX.markT a0), ⟨(YtjibadlbiapcmaaGreatDoorX.markT a1), ((a2 : Nat) : Int), (YtjibadlbiapcmaaGreatDoorX.markT a3)⟩, ⟨y.f2.f0, y.f2.f1, y.f2.f2⟩⟩ : DT)).set jj (⟨(YtjibadlbiapcmaaGreatDoorX.markT a0), ⟨(YtjibadlbiapcmaaGreatDoorX.markT a1), ((a2 : Nat) : Int), (YtjibadlbiapcmaaGreatDoorX.markT a3)⟩, ⟨(YtjibadlbiapcmaaGreatDoorX.markT a4), y.f2.f1, y.f2.f2⟩⟩ : DT)).set jj (⟨(YtjibadlbiapcmaaGreatDoorX.markT a0), ⟨(YtjibadlbiapcmaaGreatDoorX.markT a1), ((a2 : Nat) : Int), (YtjibadlbiapcmaaGreatDoorX.markT a3)⟩, ⟨(YtjibadlbiapcmaaGreatDoorX.markT a4), ((a5 : Nat) : Int), y.f2.f2⟩⟩ : DT)).length by rw [List.length_set]; exact HL5.out); have HG6 := Lib.hid (getD_set_same (((((L0.set jj (⟨(YtjibadlbiapcmaaGreatDoorX.markT a0), ⟨y.f1.f0, y.f1.f1, y.f1.f2⟩, ⟨y.f2.f0, y.f2.f1, y.f2.f2⟩⟩ : DT)).set jj (⟨(YtjibadlbiapcmaaGreatDoorX.markT a0), ⟨(YtjibadlbiapcmaaGreatDoorX.markT a1), y.f1.f1, y.f1.f2⟩, ⟨y.f2.f0, y.f2.f1, y.f2.f2⟩⟩ : DT)).set jj (⟨(YtjibadlbiapcmaaGreatDoorX.markT a0), ⟨(YtjibadlbiapcmaaGreatDoorX.markT a1), ((a2 : Nat) : Int), y.f1.f2⟩, ⟨y.f2.f0, y.f2.f1, y.f2.f2⟩⟩ : DT)).set jj (⟨(YtjibadlbiapcmaaGreatDoorX.markT a0), ⟨(YtjibadlbiapcmaaGreatDoorX.markT a1), ((a2 : Nat) : Int), (YtjibadlbiapcmaaGreatDoorX.markT a3)⟩, ⟨y.f2.f0, y.f2.f1, y.f2.f2⟩⟩ : DT)).set jj (⟨(YtjibadlbiapcmaaGreatDoorX.markT a0), ⟨(YtjibadlbiapcmaaGreatDoorX.markT a1), ((a2 : Nat) : Int), (YtjibadlbiapcmaaGreatDoorX.markT a3)⟩, ⟨(YtjibadlbiapcmaaGreatDoorX.markT a4), y.f2.f1, y.f2.f2⟩⟩ : DT)) jj (⟨(YtjibadlbiapcmaaGreatDoorX.markT a0), ⟨(YtjibadlbiapcmaaGreatDoorX.markT a1), ((a2 : Nat) : Int), (YtjibadlbiapcmaaGreatDoorX.markT a3)⟩, ⟨(YtjibadlbiapcmaaGreatDoorX.markT a4), ((a5 : Nat) : Int), y.f2.f2⟩⟩ : DT) HL5.out); have RR6 := Lib.hid (Kd.R_below S5.1 hb6); have BB6 := Lib.hid (below_step (below_set ((below_set (BB4.out) hg0)) hg0) hb6); have KK6 := Lib.hid (Kept.below (S := (fun k => P0 k)) (Kept.of_grown (S := (fun k => P0 k)) S5.2 ((Kept.of_grown (S := (fun k => P0 k)) S4.2 (KK4.out) (fun k e_ => (Option.some.inj e_) ▸ hPg))) (fun k e_ => (Option.some.inj e_) ▸ hPg)) hb6); clear S4; clear S5; have hc6 : W6.cell? ⟨g, jj * 7 + 6, none⟩ = some (.string (y.f2.f2)) := (dCells RR6.out hlt (⟨(YtjibadlbiapcmaaGreatDoorX.markT a0), ⟨(YtjibadlbiapcmaaGreatDoorX.markT a1), ((a2 : Nat) : Int), (YtjibadlbiapcmaaGreatDoorX.markT a3)⟩, ⟨(YtjibadlbiapcmaaGreatDoorX.markT a4), ((a5 : Nat) : Int), y.f2.f2⟩⟩ : DT) HG6.out 6 _ rfl).1; have hf6 : W6.frozen? ⟨g, jj * 7 + 6, none⟩ = false := (dCells RR6.out hlt (⟨(YtjibadlbiapcmaaGreatDoorX.markT a0), ⟨(YtjibadlbiapcmaaGreatDoorX.markT a1), ((a2 : Nat) : Int), (YtjibadlbiapcmaaGreatDoorX.markT a3)⟩, ⟨(YtjibadlbiapcmaaGreatDoorX.markT a4), ((a5 : Nat) : Int), y.f2.f2⟩⟩ : DT) HG6.out 6 _ rfl).2; clear hb6))
      have S6 : Kd.R k77 77 (W6.setCell ⟨g, jj * 7 + 6, none⟩ (.string (YtjibadlbiapcmaaGreatDoorX.markT a6))) w0.heap.size (fun k => P0 k ∨ w.heap.size ≤ k) (.slice (some ⟨g, 0, none⟩) l0.length cap) (((((((L0.set jj (⟨(YtjibadlbiapcmaaGreatDoorX.markT a0), ⟨y.f1.f0, y.f1.f1, y.f1.f2⟩, ⟨y.f2.f0, y.f2.f1, y.f2.f2⟩⟩ : DT)).set jj (⟨(YtjibadlbiapcmaaGreatDoorX.markT a0), ⟨(YtjibadlbiapcmaaGreatDoorX.markT a1), y.f1.f1, y.f1.f2⟩, ⟨y.f2.f0, y.f2.f1, y.f2.f2⟩⟩ : DT)).set jj (⟨(YtjibadlbiapcmaaGreatDoorX.markT a0), ⟨(YtjibadlbiapcmaaGreatDoorX.markT a1), ((a2 : Nat) : Int), y.f1.f2⟩, ⟨y.f2.f0, y.f2.f1, y.f2.f2⟩⟩ : DT)).set jj (⟨(YtjibadlbiapcmaaGreatDoorX.markT a0), ⟨(YtjibadlbiapcmaaGreatDoorX.markT a1), ((a2 : Nat) : Int), (YtjibadlbiapcmaaGreatDoorX.markT a3)⟩, ⟨y.f2.f0, y.f2.f1, y.f2.f2⟩⟩ : DT)).set jj (⟨(YtjibadlbiapcmaaGreatDoorX.markT a0), ⟨(YtjibadlbiapcmaaGreatDoorX.markT a1), ((a2 : Nat) : Int), (YtjibadlbiapcmaaGreatDoorX.markT a3)⟩, ⟨(YtjibadlbiapcmaaGreatDoorX.markT a4), y.f2.f1, y.f2.f2⟩⟩ : DT)).set jj (⟨(YtjibadlbiapcmaaGreatDoorX.markT a0), ⟨(YtjibadlbiapcmaaGreatDoorX.markT a1), ((a2 : Nat) : Int), (YtjibadlbiapcmaaGreatDoorX.markT a3)⟩, ⟨(YtjibadlbiapcmaaGreatDoorX.markT a4), ((a5 : Nat) : Int), y.f2.f2⟩⟩ : DT)).set jj (⟨(YtjibadlbiapcmaaGreatDoorX.markT a0), ⟨(YtjibadlbiapcmaaGreatDoorX.markT a1), ((a2 : Nat) : Int), (YtjibadlbiapcmaaGreatDoorX.markT a3)⟩, ⟨(YtjibadlbiapcmaaGreatDoorX.markT a4), ((a5 : Nat) : Int), (YtjibadlbiapcmaaGreatDoorX.markT a6)⟩⟩ : DT)) ∧ World.grownBy W6 (W6.setCell ⟨g, jj * 7 + 6, none⟩ (.string (YtjibadlbiapcmaaGreatDoorX.markT a6))) (some g) := dStep RR6.out hlt (⟨(YtjibadlbiapcmaaGreatDoorX.markT a0), ⟨(YtjibadlbiapcmaaGreatDoorX.markT a1), ((a2 : Nat) : Int), (YtjibadlbiapcmaaGreatDoorX.markT a3)⟩, ⟨(YtjibadlbiapcmaaGreatDoorX.markT a4), ((a5 : Nat) : Int), y.f2.f2⟩⟩ : DT) HG6.out 6 _ (⟨(YtjibadlbiapcmaaGreatDoorX.markT a0), ⟨(YtjibadlbiapcmaaGreatDoorX.markT a1), ((a2 : Nat) : Int), (YtjibadlbiapcmaaGreatDoorX.markT a3)⟩, ⟨(YtjibadlbiapcmaaGreatDoorX.markT a4), ((a5 : Nat) : Int), (YtjibadlbiapcmaaGreatDoorX.markT a6)⟩⟩ : DT) (by decide) rfl
      have hmk : (⟨(YtjibadlbiapcmaaGreatDoorX.markT a0), ⟨(YtjibadlbiapcmaaGreatDoorX.markT a1), ((a2 : Nat) : Int), (YtjibadlbiapcmaaGreatDoorX.markT a3)⟩, ⟨(YtjibadlbiapcmaaGreatDoorX.markT a4), ((a5 : Nat) : Int), (YtjibadlbiapcmaaGreatDoorX.markT a6)⟩⟩ : DT) = dMark (n0 + 7 * jj) := by
        unfold dMark
        have h0 := A0.out
        rw [HE6.out, HE5.out, HE4.out, HE3.out, HE2.out, HE1.out, h0] <;> rfl
      have hR6 := S6.1
      simp only [List.set_set] at hR6
      rw [hmk, HE.out] at hR6
      have R7 := Lib.hid hR6
      have B7 := Lib.hid (below_set BB6.out hg0 : Below w0.heap.size w0 (W6.setCell ⟨g, jj * 7 + 6, none⟩ (.string (YtjibadlbiapcmaaGreatDoorX.markT a6))))
      have K7 := Lib.hid (Kept.of_grown (S := (fun k => P0 k)) S6.2 KK6.out (fun k e_ => (Option.some.inj e_) ▸ hPg))
      have A7 := Lib.hid (show a7 = n0 + 7 * (jj + 1) by
        have h0 := A0.out
        have h1 := HE1.out
        have h2 := HE2.out
        have h3 := HE3.out
        have h4 := HE4.out
        have h5 := HE5.out
        have h6 := HE6.out
        have h7 := HE7.out
        omega)
      clear hR6 S6 hmk
      go_roundg (l0.length - (jj + 1))
      case measure => omega
      case rel => exact ⟨jj + 1, a7, by omega, Nat.le_refl _, rfl, by go_num, A7.out, R7.out, B7.out, K7.out⟩
    · have hje : jj = l0.length := by omega
      have hltz : ¬ (jj : Int) < (l0.length : Int) := by omega
      have o3 := AO.out
      have a3 := A0.out
      rw [hje, List.drop_length, List.append_nil] at o3
      rw [hje] at a3
      have O3 := Lib.hid o3
      have A3 := Lib.hid a3
      clear o3 a3 AO A0 hje
      go_wp2
      go_ret
      exact ⟨by show Ending.returned (.int .i64 (a0 : Int)) = _; rw [show (a0 : Int) = (n0 : Int) + 7 * (l0.length : Int) by have := A3.out; omega], O3.out, AB.out, AK.out⟩
end Go.Proofs.YtjibadlbiapcmaaGreatDoor.PX.X

namespace Go.Proofs.YtjibadlbiapcmaaGreatDoor.PX
open Go.RowKit Go.Proofs.YtjibadlbiapcmaaGreatDoorW.PrintWords Go.Proofs.YtjibadlbiapcmaaGreatDoorW.PrintLast Go.Proofs.YtjibadlbiapcmaaGreatDoorW.PrintMore
attribute [local go_sem] max2_int min2_int max_two min_two max_three min_three max_four min_four   -- for this text's walks alone
set_option linter.unusedVariables false
set_option linter.unusedSimpArgs false

/-! ### laws_markDeltaS: function 56 -/
def laws_markDeltaS.f (l0 : List X.DT) (a1 : Int) : Option (Int × (List X.DT)) := if 0 ≤ a1 then (if a1.toNat + 7 * l0.length ≤ 9223372036854775800 then some (((a1.toNat + 7 * l0.length : Nat) : Int), X.dMarks a1.toNat l0.length) else none) else none
theorem laws_markDeltaS.calls (P0_ : Nat → Prop) (u9000_ : Value) (l0 : List X.DT) (a1 : Int) (r1 : Int) (r2 : List X.DT) (w0 w : World) (hB : Below w0.heap.size w0 w) (ho0 : Kd.R k77 77 w w0.heap.size P0_ u9000_ l0) (h : laws_markDeltaS.f l0 a1 = some (r1, r2)) :
  Calls Tryz.prog 56 #[u9000_, .int .i64 a1] w fun e w' => e = .returned (.int .i64 r1) ∧ Kd.R k77 77 w' w0.heap.size (fun k_ => (P0_ k_ ∨ w.heap.size ≤ k_)) u9000_ r2 ∧ Below w0.heap.size w0 w' ∧ Kept w w' (fun k_ => P0_ k_) := by
 unfold laws_markDeltaS.f at h
 by_cases h1 : 0 ≤ a1
 ·
  rw [if_pos h1] at h
  by_cases h2 : a1.toNat + 7 * l0.length ≤ 9223372036854775800
  ·
   rw [if_pos h2] at h
   have h3 := Option.some.inj h
   simp only [Prod.mk.injEq] at h3
   obtain ⟨rfl, rfl⟩ := h3
   obtain ⟨n, rfl⟩ := Int.eq_ofNat_of_zero_le h1
   rw [Int.toNat_natCast] at h2 ⊢
   obtain ⟨A, c, rfl⟩ := Kd.R_slice ho0
   exact X.markD_calls P0_ A c l0 n w0 w hB (Kd.R_mono ho0 (fun _ hk => .inl hk)) h2
  ·
   rw [if_neg h2] at h
   cases h
 ·
  rw [if_neg h1] at h
  cases h


/-! ### laws_markDeltasResult: function 16 -/
def laws_markDeltasResult.f (a0_0 : Int) (l0_1 : List (S77)) (a1 : Int) : Option (Int × (List (S77))) := (laws_markDeltaS.f l0_1 a1).bind fun bt392 => (some (bt392.1, bt392.2))
set_option maxHeartbeats 8000000 in
set_option maxRecDepth 100000 in
theorem laws_markDeltasResult.calls (a0_0 : Int) (P0_1_ : Nat → Prop) (u9000_ : Value) (l0_1 : List (S77)) (a1 : Int) (r1 : Int) (r2 : List (S77)) (w0 w : World) (hB : Below w0.heap.size w0 w) (ho0_1 : Kd.R k77 77 w w0.heap.size P0_1_ u9000_ l0_1) (h : laws_markDeltasResult.f a0_0 l0_1 a1 = some (r1, r2)) :
  Calls Tryz.prog 16 #[.agg #[.int .i64 a0_0, u9000_], .int .i64 a1] w fun e w' => e = .returned (.int .i64 r1) ∧ Kd.R k77 77 w' w0.heap.size (fun k_ => (P0_1_ k_ ∨ w.heap.size ≤ k_)) u9000_ r2 ∧ Below w0.heap.size w0 w' ∧ Kept w w' (fun k_ => P0_1_ k_) := by
 have hu26 := Tryz.underlying26
 have HO0_1 := zK (show Kd.R k77 77 w w0.heap.size (fun k_ => (P0_1_ k_ ∨ w.heap.size ≤ k_)) u9000_ l0_1 from Kd.R_mono ho0_1 (fun k_ hk => (.inl hk)))
 have HK := zK (Kept.refl w (fun k_ => P0_1_ k_))
 have HW0 := zK hB.size
 have HB := zK hB
 clear hB
 have H : ((laws_markDeltaS.f l0_1 a1).bind fun bt392 => (some (bt392.1, bt392.2))) = some (r1, r2) := h
 clear h
 replace H := Option.bind_eq_some_iff.mp H
 obtain ⟨⟨t392, t393⟩, A30, H⟩ := H
 replace H : (some (t392, t393)) = some (r1, r2) := H
 have A3 := zK A30
 clear A30
 simp only [Option.some.injEq, Prod.mk.injEq] at H
 obtain ⟨rfl, rfl⟩ := H
 obtain ⟨Ao4, co4, eo4⟩ := Kd.R_slice HO0_1.out
 subst eo4
 go_enter Tryz.func16, Tryz.ntmps16
 go_wp2_with (first | ((with_reducible refine gate_dst (N := 2) rfl ?_); refine box_event ?hg (N := 2) ?hd (cs := #[.int .i64 a0_0, .slice Ao4 l0_1.length co4]) (t := 26) ?hr ?_; (case hd => rfl); (case hg => rfl); (case hr => first | (go_simp; done) | (go_simp; rfl)); intro gb391 hg w5 hbox hb; have n0_ := zK (Kd.R_below (by (with_reducible repeat (first | apply zR | apply zV | apply zW)); exact HO0_1.out) hb); have n1_ := zK (Kept.below (S := (fun k_ => P0_1_ k_)) (by repeat (first | (with_reducible first | exact HK.out | apply Kept.alloc | apply Kept.drewN | apply Kept.drew) | exact HK.out)) hb); have n2_ := zK (below_step (by repeat (first | (with_reducible first | exact HB.out | apply zA | apply zN | apply zD) | exact HB.out)) hb); have n3_ := zK (hbox); have n4_ := zK ((by rw [hg]; exact (by first | exact HK.out.1 | exact (show Kept w _ (fun k_ => P0_1_ k_) from by repeat (first | (with_reducible first | exact HK.out | apply Kept.alloc | apply Kept.drewN | apply Kept.drew) | exact HK.out)).1) : w.heap.size ≤ gb391)); have n5_ := zK ((by rw [hg]; exact (below_size (by repeat (first | (with_reducible first | exact HB.out | apply zA | apply zN | apply zD) | exact HB.out))) : w0.heap.size ≤ gb391)); clear HO0_1; clear HK; clear HB; have HO0_1 := n0_; have HK := n1_; have HB := n2_; have BK391 := n3_; have GW391 := n4_; have GE391 := n5_; clear n0_ n1_ n2_ n3_ n4_ n5_; clear hb hbox hg; have hcz6_0 : w5.cell? ⟨gb391, 0, none⟩ = some (.int .i64 a0_0) := (blk_cell BK391.out 0).trans rfl; have hcz6_1 : w5.cell? ⟨gb391, 1, none⟩ = some (.slice Ao4 l0_1.length co4) := (blk_cell BK391.out 1).trans rfl; have hfz6_0 := blk_frozen BK391.out 0; have hfz6_1 := blk_frozen BK391.out 1) | ((with_reducible refine gate_callee (f := 56) rfl ?_); refine goesL_ (some 8) rfl rfl Tryz.func56 (by kernel_rfl) rfl #[.slice Ao4 l0_1.length co4, .int .i64 a1] rfl (by (try simp only [List.map_toArray, List.map_cons, List.map_nil]); first | done | rfl | (simp only [List.length_drop, List.length_take]; rfl)) ?_; (with_reducible refine (laws_markDeltaS.calls (fun k_ => some k_ = (.slice Ao4 l0_1.length co4 : Value).ownBlock) (.slice Ao4 l0_1.length co4) l0_1 a1 t392 t393 w0 _ ?side1 ?side2 A3.out).mono ?_); (case side1 => repeat (first | (with_reducible first | exact HB.out | apply zA | apply zN | apply zD | refine below_set ?_ GE391.out) | exact HB.out)); (case side2 => exact Kd.R_tight rfl HO0_1.out); rintro e w7 ⟨rfl, hy0, hb, hkp⟩; refine ⟨_, rfl, ?_⟩; have n0_ := zK (Kd.R_reok rfl hy0 (fun k_ e_ => HO0_1.out.1 k_ e_)); have n1_ := zK (blk_kept (by (with_reducible repeat (first | refine zM ?_ _ | refine zP ?_ | refine zQ ?_ _)); exact BK391.out) hkp (fun hs_ => (fun e_ => (Kd.R_ne HO0_1.out BK391.out (by decide)) e_) hs_)); have n2_ := zK (Kept.then_ (S := (fun k_ => P0_1_ k_)) (by repeat (first | (with_reducible first | exact HK.out | apply Kept.alloc | apply Kept.drewN | apply Kept.drew | refine Kept.setCell ?_ (.inr GW391.out) _) | exact HK.out)) hkp (fun k_ hs_ => (fun e_ => (HO0_1.out.1 k_ e_.symm)) hs_)); have n3_ := zK (hb); clear HO0_1; clear BK391; clear HK; clear HB; have HO0_1 := n0_; have BK391 := n1_; have HK := n2_; have HB := n3_; clear n0_ n1_ n2_ n3_; (try clear hb); (try clear hkp); (try clear hy0)))
 go_ret
 exact ⟨by first | rfl | (simp [errW_none, errW_some] <;> rfl) | (simp [*, errW_none, errW_some] <;> rfl), by (with_reducible repeat (first | apply zR | apply zV | apply zW)); exact HO0_1.out, by repeat (first | (with_reducible first | exact HB.out | apply zA | apply zN | apply zD | refine below_set ?_ GE391.out) | exact HB.out), by repeat (first | (with_reducible first | exact HK.out | apply Kept.alloc | apply Kept.drewN | apply Kept.drew | refine Kept.setCell ?_ (.inr GW391.out) _) | exact HK.out)⟩

end Go.Proofs.YtjibadlbiapcmaaGreatDoor.PX

namespace Go.Proofs.YtjibadlbiapcmaaGreatDoor.PX.X
open Go Go.RowKit Go.Lib Go.Proofs.YtjibadlbiapcmaaGreatDoorW.PrintWords Go.Proofs.YtjibadlbiapcmaaGreatDoor.PX
set_option linter.unusedVariables false
set_option linter.unusedSimpArgs false
theorem dMarks_len (n L : Nat) : (dMarks n L).length = L := by
  unfold dMarks
  rw [List.length_map, List.length_range]
theorem dMarks_get (n L j : Nat) (h : j < L) : (dMarks n L)[j]? = some (dMark (n + 7 * j)) := by
  unfold dMarks
  rw [List.getElem?_map, List.getElem?_range h]
  rfl
theorem keep1 {a : Addr} {v : Value} {W w1 w2 : World} (hc : W.cell? a = some v) (hb : Below W.heap.size W w1) (h2 : Below w1.heap.size w1 w2) : w2.cell? a = some v ∧ Below W.heap.size W w2 :=
  ⟨((hb.trans (h2.mono hb.size)).cell (World.block_lt_of_cell? W _ hc)).trans hc, hb.trans (h2.mono hb.size)⟩
set_option maxHeartbeats 1000000 in
set_option maxRecDepth 8000 in
theorem heldD_calls (A : Option Addr) (cap : Nat) (L n0 : Nat) (w : World) (ho : Kd.C k77 w A L (dMarks n0 L)) (hn : n0 + 7 * L ≤ 9223372036854775800) :
    Calls Tryz.prog 57 #[.slice A L cap, .int .i64 n0] w fun e w' => e = .returned (.int .i64 ((n0 + 7 * L : Nat) : Int)) ∧ Below w.heap.size w w' := by
  have HO := Lib.hid ho
  have HN := Lib.hid hn
  obtain ⟨R, hRR⟩ : ∃ R : Nat, n0 + 7 * L = R := ⟨_, rfl⟩
  rw [hRR]
  have HRR := Lib.hid hRR
  clear ho hn hRR
  go_enter Tryz.func57, Tryz.ntmps57
  go_wp2
  go_loopg [1, 5] L (fun gg s1 s5 wr => ∃ (jj a0 : Nat), jj ≤ L ∧ L - jj ≤ gg ∧ s1 = .int .i64 a0 ∧ s5 = .int .i64 jj ∧ Aside (a0 = n0 + 7 * jj) ∧ Aside (Below w.heap.size w wr))
  case atStart => exact ⟨0, n0, Nat.zero_le _, by omega, rfl, rfl, (show n0 = n0 + 7 * 0 by omega), Below.refl _ _⟩
  case round =>
    obtain ⟨jj, a0, hjj, hgm, rfl, rfl, A0, AB⟩ := hrel
    have hjz : (0 : Int) ≤ (jj : Int) := by omega
    by_cases hlt : jj < L
    · have hltz : (jj : Int) < (L : Int) := by omega
      obtain ⟨ad, rfl, QQ⟩ : ∃ ad, A = some ad ∧ Hid (∀ W, Below w.heap.size w W → ∀ i u, (cellsD (dMark a0))[i]? = some u → W.cell? (ad.add (jj * 7 + i)) = some u) := by
        obtain ⟨ad, e0, hc⟩ := HO.out.2.2 (by omega)
        obtain ⟨cs, hl, hK, hcell⟩ := hc jj (dMark (n0 + 7 * jj)) (dMarks_get n0 L jj hlt)
        refine ⟨ad, e0, Lib.hid fun W hb i u hu => ?_⟩
        have e1 := k77_open hK
        subst e1
        have h0 := A0.out
        subst h0
        have hc1 : w.cell? (ad.add (jj * 7 + i)) = some u := hcell i u hu
        exact (hb.cell (World.block_lt_of_cell? w _ hc1)).trans hc1
      obtain ⟨a1, e1⟩ : ∃ a1, a1 = a0 + 1 := ⟨_, rfl⟩
      have hw0 : IntKind.i64.wrap ((a0 : Int) + 1) = (a1 : Int) := (IntWalk.i64_in _ (by have h1 := HN.out; have h2 := A0.out; omega)).trans (by omega)
      obtain ⟨a2, e2⟩ : ∃ a2, a2 = a1 + 1 := ⟨_, rfl⟩
      have hw1 : IntKind.i64.wrap ((a1 : Int) + 1) = (a2 : Int) := (IntWalk.i64_in _ (by have h1 := HN.out; have h2 := A0.out; omega)).trans (by omega)
      obtain ⟨a3, e3⟩ : ∃ a3, a3 = a2 + 1 := ⟨_, rfl⟩
      have hw2 : IntKind.i64.wrap ((a2 : Int) + 1) = (a3 : Int) := (IntWalk.i64_in _ (by have h1 := HN.out; have h2 := A0.out; omega)).trans (by omega)
      obtain ⟨a4, e4⟩ : ∃ a4, a4 = a3 + 1 := ⟨_, rfl⟩
      have hw3 : IntKind.i64.wrap ((a3 : Int) + 1) = (a4 : Int) := (IntWalk.i64_in _ (by have h1 := HN.out; have h2 := A0.out; omega)).trans (by omega)
      obtain ⟨a5, e5⟩ : ∃ a5, a5 = a4 + 1 := ⟨_, rfl⟩
      have hw4 : IntKind.i64.wrap ((a4 : Int) + 1) = (a5 : Int) := (IntWalk.i64_in _ (by have h1 := HN.out; have h2 := A0.out; omega)).trans (by omega)
      obtain ⟨a6, e6⟩ : ∃ a6, a6 = a5 + 1 := ⟨_, rfl⟩
      have hw5 : IntKind.i64.wrap ((a5 : Int) + 1) = (a6 : Int) := (IntWalk.i64_in _ (by have h1 := HN.out; have h2 := A0.out; omega)).trans (by omega)
      obtain ⟨a7, e7⟩ : ∃ a7, a7 = a6 + 1 := ⟨_, rfl⟩
      have hw6 : IntKind.i64.wrap ((a6 : Int) + 1) = (a7 : Int) := (IntWalk.i64_in _ (by have h1 := HN.out; have h2 := A0.out; omega)).trans (by omega)
      have HM0 := Lib.hid (YtjibadlbiapcmaaGreatDoorX.markText_tells a0 (by have h1 := HN.out; have h2 := A0.out; omega) 21 (Nat.le_refl _))
      have HM1 := Lib.hid (YtjibadlbiapcmaaGreatDoorX.markText_tells a1 (by have h1 := HN.out; have h2 := A0.out; omega) 21 (Nat.le_refl _))
      have HM3 := Lib.hid (YtjibadlbiapcmaaGreatDoorX.markText_tells a3 (by have h1 := HN.out; have h2 := A0.out; omega) 21 (Nat.le_refl _))
      have HM4 := Lib.hid (YtjibadlbiapcmaaGreatDoorX.markText_tells a4 (by have h1 := HN.out; have h2 := A0.out; omega) 21 (Nat.le_refl _))
      have HM6 := Lib.hid (YtjibadlbiapcmaaGreatDoorX.markText_tells a6 (by have h1 := HN.out; have h2 := A0.out; omega) 21 (Nat.le_refl _))
      have EE := Lib.hid (show a1 = a0 + 1 ∧ a2 = a0 + 2 ∧ a3 = a0 + 3 ∧ a4 = a0 + 4 ∧ a5 = a0 + 5 ∧ a6 = a0 + 6 ∧ a7 = a0 + 7 from ⟨by omega, by omega, by omega, by omega, by omega, by omega, by omega⟩)
      clear e1 e2 e3 e4 e5 e6 e7
      have hwj : IntKind.i64.wrap ((jj : Int) + 1) = (jj : Int) + 1 := IntWalk.i64_in _ (by have h1 := HN.out; omega)
      have ea : ∀ i, i ≠ 0 → ad.add (jj * 7 + i) = ⟨(ad.add (jj * 7)).block, (ad.add (jj * 7)).off + i, none⟩ := fun i hi => by
        unfold Addr.add
        by_cases h1 : jj * 7 = 0 <;> simp [h1, hi, Nat.add_assoc]
      have QF : (∀ W, Below w.heap.size w W → W.cell? (ad.add (jj * 7)) = some (.string (YtjibadlbiapcmaaGreatDoorX.markT a0)) ∧ W.cell? ⟨(ad.add (jj * 7)).block, (ad.add (jj * 7)).off + 1, none⟩ = some (.string (YtjibadlbiapcmaaGreatDoorX.markT a1)) ∧ W.cell? ⟨(ad.add (jj * 7)).block, (ad.add (jj * 7)).off + 2, none⟩ = some (.int .i64 (a2 : Int)) ∧ W.cell? ⟨(ad.add (jj * 7)).block, (ad.add (jj * 7)).off + 3, none⟩ = some (.string (YtjibadlbiapcmaaGreatDoorX.markT a3)) ∧ W.cell? ⟨(ad.add (jj * 7)).block, (ad.add (jj * 7)).off + 4, none⟩ = some (.string (YtjibadlbiapcmaaGreatDoorX.markT a4)) ∧ W.cell? ⟨(ad.add (jj * 7)).block, (ad.add (jj * 7)).off + 5, none⟩ = some (.int .i64 (a5 : Int)) ∧ W.cell? ⟨(ad.add (jj * 7)).block, (ad.add (jj * 7)).off + 6, none⟩ = some (.string (YtjibadlbiapcmaaGreatDoorX.markT a6))) := fun W hb => by
        obtain ⟨h1, h2, h3, h4, h5, h6, _⟩ := EE.out
        subst h1 h2 h3 h4 h5 h6
        refine ⟨?_, ?_, ?_, ?_, ?_, ?_, ?_⟩
        · exact QQ.out W hb 0 _ rfl
        · rw [← ea 1 (by decide)]
          exact QQ.out W hb 1 _ rfl
        · rw [← ea 2 (by decide)]
          exact QQ.out W hb 2 _ rfl
        · rw [← ea 3 (by decide)]
          exact QQ.out W hb 3 _ rfl
        · rw [← ea 4 (by decide)]
          exact QQ.out W hb 4 _ rfl
        · rw [← ea 5 (by decide)]
          exact QQ.out W hb 5 _ rfl
        · rw [← ea 6 (by decide)]
          exact QQ.out W hb 6 _ rfl
      have QH := Lib.hid QF
      clear QF QQ ea
      have BW0 := Lib.hid AB.out
      clear AB
      generalize hWR : wr = W0 at BW0 ⊢
      clear hWR
      have hq0 : W0.drew.cell? (ad.add (jj * 7)) = some (.string (YtjibadlbiapcmaaGreatDoorX.markT a0)) := (QH.out W0 BW0.out).1
      have hK0 : W0.drew.cell? (ad.add (jj * 7)) = some (.string (YtjibadlbiapcmaaGreatDoorX.markT a0)) ∧ Below W0.heap.size W0 W0.drew := ⟨hq0, below_drew1 (Below.refl _ _)⟩
      have HQ0 := Lib.hid (show W0.cell? (ad.add (jj * 7)) = some (.string (YtjibadlbiapcmaaGreatDoorX.markT a0)) from (QH.out W0 BW0.out).1)
      clear hq0
      go_wp2
      go_region_held3 (fun w' => w'.cell? (ad.add (jj * 7)) = some (.string (YtjibadlbiapcmaaGreatDoorX.markT a0)) ∧ Below W0.heap.size W0 w') ((with_reducible first | assumption | exact hHeld0 | exact keep1 HQ0.out (by with_reducible repeat (first | assumption | exact Below.refl _ _ | apply below_alloc | apply pw_below_drewN | apply below_drew1)) (Below.refl _ _))) ((go_at_call 55; (with_reducible refine (laws_markText.calls 21 (a0 : Int) (YtjibadlbiapcmaaGreatDoorX.markT a0) _ HM0.out).mono ?_); rintro e V1 ⟨rfl, hb1⟩; have hHeld0 := keep1 HQ0.out (by with_reducible repeat (first | assumption | exact Below.refl _ _ | apply below_alloc | apply pw_below_drewN | apply below_drew1)) hb1))
      have BW1 := Lib.hid (BW0.out.trans (hHeld0.2.mono BW0.out.size))
      generalize hWW : V1 = W1 at BW1 ⊢
      clear hWW hK0
      have hq1 : W1.drew.cell? ⟨(ad.add (jj * 7)).block, (ad.add (jj * 7)).off + 1, none⟩ = some (.string (YtjibadlbiapcmaaGreatDoorX.markT a1)) := (QH.out W1 BW1.out).2.1
      have hK1 : W1.drew.cell? ⟨(ad.add (jj * 7)).block, (ad.add (jj * 7)).off + 1, none⟩ = some (.string (YtjibadlbiapcmaaGreatDoorX.markT a1)) ∧ Below W1.heap.size W1 W1.drew := ⟨hq1, below_drew1 (Below.refl _ _)⟩
      have HQ1 := Lib.hid (show W1.cell? ⟨(ad.add (jj * 7)).block, (ad.add (jj * 7)).off + 1, none⟩ = some (.string (YtjibadlbiapcmaaGreatDoorX.markT a1)) from (QH.out W1 BW1.out).2.1)
      clear hq1
      go_wp2
      go_region_held3 (fun w' => w'.cell? ⟨(ad.add (jj * 7)).block, (ad.add (jj * 7)).off + 1, none⟩ = some (.string (YtjibadlbiapcmaaGreatDoorX.markT a1)) ∧ Below W1.heap.size W1 w') ((with_reducible first | assumption | exact hHeld1 | exact keep1 HQ1.out (by with_reducible repeat (first | assumption | exact Below.refl _ _ | apply below_alloc | apply pw_below_drewN | apply below_drew1)) (Below.refl _ _))) ((go_at_call 55; (with_reducible refine (laws_markText.calls 21 (a1 : Int) (YtjibadlbiapcmaaGreatDoorX.markT a1) _ HM1.out).mono ?_); rintro e V2 ⟨rfl, hb2⟩; have hHeld1 := keep1 HQ1.out (by with_reducible repeat (first | assumption | exact Below.refl _ _ | apply below_alloc | apply pw_below_drewN | apply below_drew1)) hb2))
      have BW2 := Lib.hid (BW1.out.trans (hHeld1.2.mono BW1.out.size))
      generalize hWW : V2 = W2 at BW2 ⊢
      clear hWW hK1
      have q2 := (QH.out W2 BW2.out).2.2.1
      have hq3 : W2.drew.cell? ⟨(ad.add (jj * 7)).block, (ad.add (jj * 7)).off + 3, none⟩ = some (.string (YtjibadlbiapcmaaGreatDoorX.markT a3)) := (QH.out W2 BW2.out).2.2.2.1
      have hK3 : W2.drew.cell? ⟨(ad.add (jj * 7)).block, (ad.add (jj * 7)).off + 3, none⟩ = some (.string (YtjibadlbiapcmaaGreatDoorX.markT a3)) ∧ Below W2.heap.size W2 W2.drew := ⟨hq3, below_drew1 (Below.refl _ _)⟩
      have HQ3 := Lib.hid (show W2.cell? ⟨(ad.add (jj * 7)).block, (ad.add (jj * 7)).off + 3, none⟩ = some (.string (YtjibadlbiapcmaaGreatDoorX.markT a3)) from (QH.out W2 BW2.out).2.2.2.1)
      clear hq3
      go_wp2
      go_region_held3 (fun w' => w'.cell? ⟨(ad.add (jj * 7)).block, (ad.add (jj * 7)).off + 3, none⟩ = some (.string (YtjibadlbiapcmaaGreatDoorX.markT a3)) ∧ Below W2.heap.size W2 w') ((with_reducible first | assumption | exact hHeld3 | exact keep1 HQ3.out (by with_reducible repeat (first | assumption | exact Below.refl _ _ | apply below_alloc | apply pw_below_drewN | apply below_drew1)) (Below.refl _ _))) ((go_at_call 55; (with_reducible refine (laws_markText.calls 21 (a3 : Int) (YtjibadlbiapcmaaGreatDoorX.markT a3) _ HM3.out).mono ?_); rintro e V3 ⟨rfl, hb3⟩; have hHeld3 := keep1 HQ3.out (by with_reducible repeat (first | assumption | exact Below.refl _ _ | apply below_alloc | apply pw_below_drewN | apply below_drew1)) hb3))
      have BW3 := Lib.hid (BW2.out.trans (hHeld3.2.mono BW2.out.size))
      generalize hWW : V3 = W3 at BW3 ⊢
      clear hWW hK3
      have hq4 : W3.drew.cell? ⟨(ad.add (jj * 7)).block, (ad.add (jj * 7)).off + 4, none⟩ = some (.string (YtjibadlbiapcmaaGreatDoorX.markT a4)) := (QH.out W3 BW3.out).2.2.2.2.1
      have hK4 : W3.drew.cell? ⟨(ad.add (jj * 7)).block, (ad.add (jj * 7)).off + 4, none⟩ = some (.string (YtjibadlbiapcmaaGreatDoorX.markT a4)) ∧ Below W3.heap.size W3 W3.drew := ⟨hq4, below_drew1 (Below.refl _ _)⟩
      have HQ4 := Lib.hid (show W3.cell? ⟨(ad.add (jj * 7)).block, (ad.add (jj * 7)).off + 4, none⟩ = some (.string (YtjibadlbiapcmaaGreatDoorX.markT a4)) from (QH.out W3 BW3.out).2.2.2.2.1)
      clear hq4
      go_wp2
      go_region_held3 (fun w' => w'.cell? ⟨(ad.add (jj * 7)).block, (ad.add (jj * 7)).off + 4, none⟩ = some (.string (YtjibadlbiapcmaaGreatDoorX.markT a4)) ∧ Below W3.heap.size W3 w') ((with_reducible first | assumption | exact hHeld4 | exact keep1 HQ4.out (by with_reducible repeat (first | assumption | exact Below.refl _ _ | apply below_alloc | apply pw_below_drewN | apply below_drew1)) (Below.refl _ _))) ((go_at_call 55; (with_reducible refine (laws_markText.calls 21 (a4 : Int) (YtjibadlbiapcmaaGreatDoorX.markT a4) _ HM4.out).mono ?_); rintro e V4 ⟨rfl, hb4⟩; have hHeld4 := keep1 HQ4.out (by with_reducible repeat (first | assumption | exact Below.refl _ _ | apply below_alloc | apply pw_below_drewN | apply below_drew1)) hb4))
      have BW4 := Lib.hid (BW3.out.trans (hHeld4.2.mono BW3.out.size))
      generalize hWW : V4 = W4 at BW4 ⊢
      clear hWW hK4
      have q5 := (QH.out W4 BW4.out).2.2.2.2.2.1
      have hq6 : W4.drew.cell? ⟨(ad.add (jj * 7)).block, (ad.add (jj * 7)).off + 6, none⟩ = some (.string (YtjibadlbiapcmaaGreatDoorX.markT a6)) := (QH.out W4 BW4.out).2.2.2.2.2.2
      have hK6 : W4.drew.cell? ⟨(ad.add (jj * 7)).block, (ad.add (jj * 7)).off + 6, none⟩ = some (.string (YtjibadlbiapcmaaGreatDoorX.markT a6)) ∧ Below W4.heap.size W4 W4.drew := ⟨hq6, below_drew1 (Below.refl _ _)⟩
      have HQ6 := Lib.hid (show W4.cell? ⟨(ad.add (jj * 7)).block, (ad.add (jj * 7)).off + 6, none⟩ = some (.string (YtjibadlbiapcmaaGreatDoorX.markT a6)) from (QH.out W4 BW4.out).2.2.2.2.2.2)
      clear hq6
      go_wp2
      go_region_held3 (fun w' => w'.cell? ⟨(ad.add (jj * 7)).block, (ad.add (jj * 7)).off + 6, none⟩ = some (.string (YtjibadlbiapcmaaGreatDoorX.markT a6)) ∧ Below W4.heap.size W4 w') ((with_reducible first | assumption | exact hHeld6 | exact keep1 HQ6.out (by with_reducible repeat (first | assumption | exact Below.refl _ _ | apply below_alloc | apply pw_below_drewN | apply below_drew1)) (Below.refl _ _))) ((go_at_call 55; (with_reducible refine (laws_markText.calls 21 (a6 : Int) (YtjibadlbiapcmaaGreatDoorX.markT a6) _ HM6.out).mono ?_); rintro e V5 ⟨rfl, hb5⟩; have hHeld6 := keep1 HQ6.out (by with_reducible repeat (first | assumption | exact Below.refl _ _ | apply below_alloc | apply pw_below_drewN | apply below_drew1)) hb5))
      have BW5 := Lib.hid (BW4.out.trans (hHeld6.2.mono BW4.out.size))
      generalize hWW : V5 = W5 at BW5 ⊢
      clear hWW hK6
      go_wp2
      go_roundg (L - (jj + 1))
      case measure => omega
      case rel => exact ⟨jj + 1, a7, by omega, Nat.le_refl _, rfl, by go_num, (show a7 = n0 + 7 * (jj + 1) by have h1 := EE.out; have h2 := A0.out; omega), BW5.out⟩
    · have hke : jj = L := by omega
      subst hke
      have hltz : ¬ (jj : Int) < (jj : Int) := by omega
      go_wp2
      go_ret
      obtain rfl : a0 = R := by have h0 := A0.out; have h1 := HRR.out; omega
      exact ⟨rfl, AB.out⟩
def eqT (x y : ByteArray) : Bool := x.toList == y.toList
theorem eqT_eq {x y : ByteArray} (h : eqT x y = true) : x = y := YtjibadlbiapcmaaGreatDoorX.toList_inj (eq_of_beq h)
theorem eqT_refl (x : ByteArray) : eqT x x = true := beq_self_eq_true _
def eqDT (x y : DT) : Bool := eqT x.f0 y.f0 && eqT x.f1.f0 y.f1.f0 && x.f1.f1 == y.f1.f1 && eqT x.f1.f2 y.f1.f2 && eqT x.f2.f0 y.f2.f0 && x.f2.f1 == y.f2.f1 && eqT x.f2.f2 y.f2.f2
theorem eqDT_eq {x y : DT} (h : eqDT x y = true) : x = y := by
  obtain ⟨a, ⟨b, c, d⟩, ⟨e, f, g⟩⟩ := x
  obtain ⟨a', ⟨b', c', d'⟩, ⟨e', f', g'⟩⟩ := y
  unfold eqDT at h
  simp only [Bool.and_eq_true] at h
  obtain ⟨⟨⟨⟨⟨⟨h0, h1⟩, h2⟩, h3⟩, h4⟩, h5⟩, h6⟩ := h
  obtain rfl := eqT_eq h0
  obtain rfl := eqT_eq h1
  obtain rfl : c = c' := eq_of_beq h2
  obtain rfl := eqT_eq h3
  obtain rfl := eqT_eq h4
  obtain rfl : f = f' := eq_of_beq h5
  obtain rfl := eqT_eq h6
  rfl
theorem eqDT_refl (x : DT) : eqDT x x = true := by
  unfold eqDT
  simp only [eqT_refl, beq_self_eq_true, Bool.and_self]
def heldB (n : Nat) : List DT → Bool
  | [] => true
  | x :: l => eqDT x (dMark n) && heldB (n + 7) l
theorem dMarks_succ (n L : Nat) : dMarks n (L + 1) = dMark n :: dMarks (n + 7) L := by
  unfold dMarks
  rw [List.range_succ_eq_map, List.map_cons, List.map_map]
  congr 1
  apply List.map_congr_left
  intro j _
  show dMark (n + 7 * (j + 1)) = dMark (n + 7 + 7 * j)
  congr 1
  omega
theorem heldB_eq : ∀ (l : List DT) (n : Nat), heldB n l = true → l = dMarks n l.length
  | [], n, _ => rfl
  | x :: l, n, h => by
    unfold heldB at h
    rw [Bool.and_eq_true] at h
    rw [List.length_cons, dMarks_succ, eqDT_eq h.1]
    conv => lhs; rw [heldB_eq l (n + 7) h.2]
theorem heldB_marks : ∀ (L n : Nat), heldB n (dMarks n L) = true
  | 0, n => rfl
  | L + 1, n => by
    rw [dMarks_succ]
    show (eqDT (dMark n) (dMark n) && heldB (n + 7) (dMarks (n + 7) L)) = true
    rw [eqDT_refl, heldB_marks L (n + 7)]
    rfl
end Go.Proofs.YtjibadlbiapcmaaGreatDoor.PX.X

namespace Go.Proofs.YtjibadlbiapcmaaGreatDoor.PX
open Go.RowKit Go.Proofs.YtjibadlbiapcmaaGreatDoorW.PrintWords Go.Proofs.YtjibadlbiapcmaaGreatDoorW.PrintLast Go.Proofs.YtjibadlbiapcmaaGreatDoorW.PrintMore
attribute [local go_sem] max2_int min2_int max_two min_two max_three min_three max_four min_four   -- for this text's walks alone
set_option linter.unusedVariables false
set_option linter.unusedSimpArgs false

/-! ### laws_heldDeltaS: function 57 -/
def laws_heldDeltaS.f (l0 : List X.DT) (a1 : Int) : Option Int := if 0 ≤ a1 then (if a1.toNat + 7 * l0.length ≤ 9223372036854775800 then (if X.heldB a1.toNat l0 = true then some ((a1.toNat + 7 * l0.length : Nat) : Int) else none) else none) else none
theorem laws_heldDeltaS.calls (A0 : Option Addr) (c0 : Nat) (l0 : List X.DT) (a1 : Int) (r : Int) (w : World) (hr0 : Kd.C k77 w A0 l0.length l0) (hc0 : l0.length ≤ c0) (h : laws_heldDeltaS.f l0 a1 = some r) :
  Calls Tryz.prog 57 #[.slice A0 l0.length c0, .int .i64 a1] w fun e w' => e = .returned (.int .i64 r) ∧ Below w.heap.size w w' := by
 unfold laws_heldDeltaS.f at h
 by_cases h1 : 0 ≤ a1
 ·
  rw [if_pos h1] at h
  by_cases h2 : a1.toNat + 7 * l0.length ≤ 9223372036854775800
  ·
   rw [if_pos h2] at h
   by_cases h3 : X.heldB a1.toNat l0 = true
   ·
    rw [if_pos h3] at h
    obtain rfl := Option.some.inj h
    obtain ⟨n, rfl⟩ := Int.eq_ofNat_of_zero_le h1
    rw [Int.toNat_natCast] at h2 h3 ⊢
    have e := X.heldB_eq l0 n h3
    refine X.heldD_calls A0 c0 l0.length n w ?_ h2
    rw [← e]
    exact hr0
   ·
    rw [if_neg h3] at h
    cases h
  ·
   rw [if_neg h2] at h
   cases h
 ·
  rw [if_neg h1] at h
  cases h


/-! ### laws_heldDeltasResult: function 17 -/
def laws_heldDeltasResult.f (a0_0 : Int) (l0_1 : List (S77)) (a1 : Int) : Option (Int) := (laws_heldDeltaS.f l0_1 a1).bind fun t395 => (if t395 < 0 then (some (-1)) else (some t395))
set_option maxHeartbeats 8000000 in
set_option maxRecDepth 100000 in
theorem laws_heldDeltasResult.calls (a0_0 : Int) (A0_1 : Option Addr) (c0_1 : Nat) (l0_1 : List (S77)) (a1 : Int) (r : Int) (w : World) (hr0_1 : Kd.C k77 w A0_1 l0_1.length l0_1) (hc0_1 : l0_1.length ≤ c0_1) (h : laws_heldDeltasResult.f a0_0 l0_1 a1 = some r) :
  Calls Tryz.prog 17 #[.agg #[.int .i64 a0_0, .slice A0_1 l0_1.length c0_1], .int .i64 a1] w fun e w' => e = .returned (.int .i64 r) ∧ Below w.heap.size w w' := by
 have hu26 := Tryz.underlying26
 have HR0_1 := zK hr0_1
 have HC0_1 := zK hc0_1
 clear hr0_1 hc0_1
 have HB := zK (Below.refl w.heap.size w)
 have H : ((laws_heldDeltaS.f l0_1 a1).bind fun t395 => (if t395 < 0 then (some (-1)) else (some t395))) = some r := h
 clear h
 replace H := Option.bind_eq_some_iff.mp H
 obtain ⟨t395, A30, H⟩ := H
 replace H : (if t395 < 0 then (some (-1)) else (some t395)) = some r := H
 have A3 := zK A30
 clear A30
 by_cases c4 : t395 < 0
 ·
  rw [if_pos c4] at H
  have c4b0 : decide (t395 < 0) = true := decide_eq_true c4
  clear c4
  obtain rfl := Option.some.inj H
  go_enter Tryz.func17, Tryz.ntmps17
  go_wp2_with (first | ((with_reducible refine gate_dst (N := 2) rfl ?_); refine box_event ?hg (N := 2) ?hd (cs := #[.int .i64 a0_0, .slice A0_1 l0_1.length c0_1]) (t := 26) ?hr ?_; (case hd => rfl); (case hg => rfl); (case hr => first | (go_simp; done) | (go_simp; rfl)); intro gb394 hg w5 hbox hb; have n0_ := zK (below_step (by repeat (first | (with_reducible first | exact HB.out | apply zA | apply zN | apply zD) | exact HB.out)) hb); have n1_ := zK (hbox); have n2_ := zK ((by rw [hg]; exact (below_size (by repeat (first | (with_reducible first | exact HB.out | apply zA | apply zN | apply zD) | exact HB.out))) : w.heap.size ≤ gb394)); have n3_ := zK ((by rw [hg]; exact (below_size (by repeat (first | (with_reducible first | exact HB.out | apply zA | apply zN | apply zD) | exact HB.out))) : w.heap.size ≤ gb394)); clear HB; have HB := n0_; have BK394 := n1_; have GW394 := n2_; have GE394 := n3_; clear n0_ n1_ n2_ n3_; clear hb hbox hg; have hcz6_0 : w5.cell? ⟨gb394, 0, none⟩ = some (.int .i64 a0_0) := (blk_cell BK394.out 0).trans rfl; have hcz6_1 : w5.cell? ⟨gb394, 1, none⟩ = some (.slice A0_1 l0_1.length c0_1) := (blk_cell BK394.out 1).trans rfl; have hfz6_0 := blk_frozen BK394.out 0; have hfz6_1 := blk_frozen BK394.out 1) | ((with_reducible refine gate_callee (f := 57) rfl ?_); refine goesL_ (some 8) rfl rfl Tryz.func57 (by kernel_rfl) rfl #[.slice A0_1 l0_1.length c0_1, .int .i64 a1] rfl (by (try simp only [List.map_toArray, List.map_cons, List.map_nil]); first | done | rfl | (simp only [List.length_drop, List.length_take]; rfl)) ?_; (with_reducible refine (laws_heldDeltaS.calls _ _ l0_1 a1 t395 _ ?side1 ?side2 A3.out).mono ?_); (case side1 => repeat (first | exact (Kd.C_below HR0_1.out HB.out) | (with_reducible refine Kd.C_alloc ?_ _) | (with_reducible refine Kd.C_drewN ?_ _) | (with_reducible refine Kd.C_drew ?_))); (case side2 => exact HC0_1.out); rintro e w7 ⟨rfl, hb⟩; refine ⟨_, rfl, ?_⟩; have n0_ := zK (blk_below (g := gb394) (o := .cells #[.int .i64 a0_0, .slice A0_1 l0_1.length c0_1] 26 (0, 0)) (by (with_reducible repeat (first | refine zM ?_ _ | refine zP ?_ | refine zQ ?_ _)); exact BK394.out) hb); have n1_ := zK (below_step (by repeat (first | (with_reducible first | exact HB.out | apply zA | apply zN | apply zD | refine below_set ?_ GE394.out) | exact HB.out)) hb); clear BK394; clear HB; have BK394 := n0_; have HB := n1_; clear n0_ n1_; (try clear hb); (try clear hb2); (try clear hk); (try clear hi)))
  go_ret
  exact ⟨by first | rfl | (simp [errW_none, errW_some] <;> rfl) | (simp [*, errW_none, errW_some] <;> rfl), by repeat (first | (with_reducible first | exact HB.out | apply zA | apply zN | apply zD | refine below_set ?_ GE394.out) | exact HB.out)⟩
 ·
  rw [if_neg c4] at H
  have c4b0 : decide (t395 < 0) = false := decide_eq_false c4
  clear c4
  obtain rfl := Option.some.inj H
  go_enter Tryz.func17, Tryz.ntmps17
  go_wp2_with (first | ((with_reducible refine gate_dst (N := 2) rfl ?_); refine box_event ?hg (N := 2) ?hd (cs := #[.int .i64 a0_0, .slice A0_1 l0_1.length c0_1]) (t := 26) ?hr ?_; (case hd => rfl); (case hg => rfl); (case hr => first | (go_simp; done) | (go_simp; rfl)); intro gb394 hg w8 hbox hb; have n0_ := zK (below_step (by repeat (first | (with_reducible first | exact HB.out | apply zA | apply zN | apply zD) | exact HB.out)) hb); have n1_ := zK (hbox); have n2_ := zK ((by rw [hg]; exact (below_size (by repeat (first | (with_reducible first | exact HB.out | apply zA | apply zN | apply zD) | exact HB.out))) : w.heap.size ≤ gb394)); have n3_ := zK ((by rw [hg]; exact (below_size (by repeat (first | (with_reducible first | exact HB.out | apply zA | apply zN | apply zD) | exact HB.out))) : w.heap.size ≤ gb394)); clear HB; have HB := n0_; have BK394 := n1_; have GW394 := n2_; have GE394 := n3_; clear n0_ n1_ n2_ n3_; clear hb hbox hg; have hcz9_0 : w8.cell? ⟨gb394, 0, none⟩ = some (.int .i64 a0_0) := (blk_cell BK394.out 0).trans rfl; have hcz9_1 : w8.cell? ⟨gb394, 1, none⟩ = some (.slice A0_1 l0_1.length c0_1) := (blk_cell BK394.out 1).trans rfl; have hfz9_0 := blk_frozen BK394.out 0; have hfz9_1 := blk_frozen BK394.out 1) | ((with_reducible refine gate_callee (f := 57) rfl ?_); refine goesL_ (some 8) rfl rfl Tryz.func57 (by kernel_rfl) rfl #[.slice A0_1 l0_1.length c0_1, .int .i64 a1] rfl (by (try simp only [List.map_toArray, List.map_cons, List.map_nil]); first | done | rfl | (simp only [List.length_drop, List.length_take]; rfl)) ?_; (with_reducible refine (laws_heldDeltaS.calls _ _ l0_1 a1 t395 _ ?side1 ?side2 A3.out).mono ?_); (case side1 => repeat (first | exact (Kd.C_below HR0_1.out HB.out) | (with_reducible refine Kd.C_alloc ?_ _) | (with_reducible refine Kd.C_drewN ?_ _) | (with_reducible refine Kd.C_drew ?_))); (case side2 => exact HC0_1.out); rintro e w10 ⟨rfl, hb⟩; refine ⟨_, rfl, ?_⟩; have n0_ := zK (blk_below (g := gb394) (o := .cells #[.int .i64 a0_0, .slice A0_1 l0_1.length c0_1] 26 (0, 0)) (by (with_reducible repeat (first | refine zM ?_ _ | refine zP ?_ | refine zQ ?_ _)); exact BK394.out) hb); have n1_ := zK (below_step (by repeat (first | (with_reducible first | exact HB.out | apply zA | apply zN | apply zD | refine below_set ?_ GE394.out) | exact HB.out)) hb); clear BK394; clear HB; have BK394 := n0_; have HB := n1_; clear n0_ n1_; (try clear hb); (try clear hb2); (try clear hk); (try clear hi)))
  go_ret
  exact ⟨by first | rfl | (simp [errW_none, errW_some] <;> rfl) | (simp [*, errW_none, errW_some] <;> rfl), by repeat (first | (with_reducible first | exact HB.out | apply zA | apply zN | apply zD | refine below_set ?_ GE394.out) | exact HB.out)⟩

end Go.Proofs.YtjibadlbiapcmaaGreatDoor.PX
