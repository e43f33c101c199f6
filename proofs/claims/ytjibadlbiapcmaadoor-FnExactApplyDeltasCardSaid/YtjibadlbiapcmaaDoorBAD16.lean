/- Texts of this claim set one behind another by wip/bundle.py: XMarkD, PXf39. -/
import Derived.Test.YtjibadlbiapcmaaDoorBAD12
import Derived.Test.YtjibadlbiapcmaaDoorBAD9
import Derived.Test.YtjibadlbiapcmaaDoorBAD13
import Derived.IntWalk
import Derived.Lib.Hide
namespace Go.Proofs.YtjibadlbiapcmaaDoor.PX.X
open Go Go.RowKit Go.Lib Go.Proofs.YtjibadlbiapcmaaDoorW.PrintWords Go.Proofs.YtjibadlbiapcmaaDoor.PX
set_option linter.unusedVariables false
set_option linter.unusedSimpArgs false
abbrev DT := S108
def cellsD (x : DT) : List Value := [.string x.f0, .string x.f1.f0, .int .i64 x.f1.f1, .string x.f1.f2, .string x.f2.f0, .int .i64 x.f2.f1, .string x.f2.f2]
theorem dCells {W : World} {B g n cap : Nat} {ok : Nat → Prop} {l : List DT} {jj : Nat} (O : Kd.R k108 108 W B ok (.slice (some ⟨g, 0, none⟩) n cap) l) (hj : jj < n) (x : DT) (hx : l.getD jj z108 = x) (off : Nat) (v : Value) (hv : (cellsD x)[off]? = some v) : W.cell? ⟨g, jj * 7 + off, none⟩ = some v ∧ W.frozen? ⟨g, jj * 7 + off, none⟩ = false := by
  obtain ⟨c, hcl, hM, hcc, hfr⟩ := Kd.R_elem O z108 (jj : Int) (by omega) (by omega)
  rw [Int.toNat_natCast] at hM hcc hfr
  rw [hx] at hM
  obtain rfl := k108_openM hM
  exact ⟨hcc off v hv, hfr off⟩
theorem dStep {W : World} {B g n cap : Nat} {ok : Nat → Prop} {l : List DT} {jj : Nat} (O : Kd.R k108 108 W B ok (.slice (some ⟨g, 0, none⟩) n cap) l) (hj : jj < n) (x : DT) (hx : l.getD jj z108 = x) (off : Nat) (v : Value) (x' : DT) (hoff : off < 7) (hset : (cellsD x).take off ++ [v] ++ (cellsD x).drop (off + 1) = cellsD x') : Kd.R k108 108 (W.setCell ⟨g, jj * 7 + off, none⟩ v) B ok (.slice (some ⟨g, 0, none⟩) n cap) (l.set jj x') ∧ W.grownBy (W.setCell ⟨g, jj * 7 + off, none⟩ v) (some g) := by
  obtain ⟨c, hcl, hM, hcc, hfr⟩ := Kd.R_elem O z108 (jj : Int) (by omega) (by omega)
  have hM2 := hM
  rw [Int.toNat_natCast, hx] at hM2
  obtain rfl := k108_openM hM2
  have h := Kd.R_seg O (jj : Int) (by omega) (by omega) (seg := [v]) (j := off) hcl hcc (by show off + 1 ≤ 7; omega) (x' := x') (okp := fun _ => False) (by
    have e : (cellsD x).take off ++ [v] ++ (cellsD x).drop (off + [v].length) = cellsD x' := hset
    show Kd.M k108 W B _ x' ((cellsD x).take off ++ [v] ++ (cellsD x).drop (off + [v].length))
    rw [e]
    exact k108_mkM W B _ x') (fun _ hk => hk.elim)
  rw [Int.toNat_natCast] at h
  exact h
def dMark (n : Nat) : DT := ⟨YtjibadlbiapcmaaDoorX.markT n, ⟨YtjibadlbiapcmaaDoorX.markT (n + 1), ((n + 2 : Nat) : Int), YtjibadlbiapcmaaDoorX.markT (n + 3)⟩, ⟨YtjibadlbiapcmaaDoorX.markT (n + 4), ((n + 5 : Nat) : Int), YtjibadlbiapcmaaDoorX.markT (n + 6)⟩⟩
def dMarks (n L : Nat) : List DT := (List.range L).map fun j => dMark (n + 7 * j)
theorem getD_set_same (l : List DT) (i : Nat) (x : DT) (h : i < l.length) : (l.set i x).getD i z108 = x := by
  rw [List.getD_eq_getElem?_getD, List.getElem?_set_self h, Option.getD_some]
theorem marks_step (n L jj : Nat) (rest : List DT) (y : DT) (h : jj < L) : (dMarks n jj ++ y :: rest).set jj (dMark (n + 7 * jj)) = dMarks n (jj + 1) ++ rest := by
  have hl : (dMarks n jj).length = jj := by unfold dMarks; rw [List.length_map, List.length_range]
  have e : dMarks n (jj + 1) = dMarks n jj ++ [dMark (n + 7 * jj)] := by
    unfold dMarks
    rw [List.range_succ, List.map_append]
    rfl
  rw [e, List.set_append_right _ _ (by omega), hl, Nat.sub_self, List.set_cons_zero, List.append_assoc]
  rfl
set_option maxHeartbeats 1000000 in
set_option maxRecDepth 8000 in
theorem markD_calls (P0 : Nat → Prop) (A : Option Addr) (cap : Nat) (l0 : List DT) (n0 : Nat) (w0 w : World) (hB : Below w0.heap.size w0 w) (ho : Kd.R k108 108 w w0.heap.size (fun k => P0 k ∨ w.heap.size ≤ k) (.slice A l0.length cap) l0) (hn : n0 + 7 * l0.length ≤ 9223372036854775800) :
    Calls Tryd.prog 39 #[.slice A l0.length cap, .int .i64 n0] w fun e w' => e = .returned (.int .i64 ((n0 + 7 * l0.length : Nat) : Int)) ∧ Kd.R k108 108 w' w0.heap.size (fun k => P0 k ∨ w.heap.size ≤ k) (.slice A l0.length cap) (dMarks n0 l0.length) ∧ Below w0.heap.size w0 w' ∧ Kept w w' (fun k => P0 k) := by
  have HO := Lib.hid ho
  have HB := Lib.hid hB
  have HN := Lib.hid hn
  have HK := Lib.hid (Kept.refl w (fun k => P0 k))
  clear ho hB hn
  go_enter Tryd.func39, Tryd.ntmps39
  go_wp2
  go_loopg [1, 5] l0.length (fun gg s1 s5 wr => ∃ (jj a0 : Nat), jj ≤ l0.length ∧ l0.length - jj ≤ gg ∧ s1 = .int .i64 a0 ∧ s5 = .int .i64 jj ∧ Aside (a0 = n0 + 7 * jj) ∧ Aside (Kd.R k108 108 wr w0.heap.size (fun k => P0 k ∨ w.heap.size ≤ k) (.slice A l0.length cap) (dMarks n0 jj ++ l0.drop jj)) ∧ Aside (Below w0.heap.size w0 wr) ∧ Aside (Kept w wr (fun k => P0 k)))
  case atStart => exact ⟨0, n0, Nat.zero_le _, by omega, rfl, rfl, (show n0 = n0 + 7 * 0 by omega), HO.out, HB.out, HK.out⟩
  case round =>
    obtain ⟨jj, a0, hjj, hgm, rfl, rfl, A0, AO, AB, AK⟩ := hrel
    clear HO HB HK
    have hjz : (0 : Int) ≤ (jj : Int) := by omega
    by_cases hlt : jj < l0.length
    · have hltz : (jj : Int) < (l0.length : Int) := by omega
      have hdrop : l0.drop jj = l0[jj] :: l0.drop (jj + 1) := List.drop_eq_getElem_cons hlt
      have o0 := AO.out
      obtain ⟨g, cap1, hv1, hg0, _⟩ := Kd.R_form o0 (by rw [List.length_append, List.length_drop]; omega)
      have hA : A = some ⟨g, 0, none⟩ := by injection hv1
      subst hA
      clear hv1
      have hPg := o0.1 g rfl
      rw [hdrop] at o0
      have hml : (dMarks n0 jj).length = jj := by unfold dMarks; rw [List.length_map, List.length_range]
      have hg : (dMarks n0 jj ++ l0[jj] :: l0.drop (jj + 1)).getD jj z108 = l0[jj] := by
        rw [List.getD_eq_getElem?_getD, List.getElem?_append_right (by omega), hml, Nat.sub_self]
        rfl
      have hll : jj < (dMarks n0 jj ++ l0[jj] :: l0.drop (jj + 1)).length := by
        rw [List.length_append, List.length_cons, hml]
        omega
      have hend := marks_step n0 l0.length jj (l0.drop (jj + 1)) l0[jj] hlt
      generalize l0[jj] = y at o0 hg hll hend
      generalize dMarks n0 jj ++ y :: l0.drop (jj + 1) = L0 at o0 hg hll hend
      have HE := Lib.hid hend
      have HL0 := Lib.hid hll
      have HG0 := Lib.hid hg
      have R0 := Lib.hid o0
      clear hend hll hg o0 hdrop hml AO
      obtain ⟨a1, e1⟩ : ∃ a1, a1 = a0 + 1 := ⟨_, rfl⟩
      have hw0 : IntKind.i64.wrap ((a0 : Int) + 1) = (a1 : Int) := (IntWalk.i64_in _ (by have h1 := HN.out; have h2 := A0.out; omega)).trans (by omega)
      obtain ⟨a2, e2⟩ : ∃ a2, a2 = a1 + 1 := ⟨_, rfl⟩
      have hw1 : IntKind.i64.wrap ((a1 : Int) + 1) = (a2 : Int) := (IntWalk.i64_in _ (by have h1 := HN.out; have h2 := A0.out; omega)).trans (by omega)
      obtain ⟨a3, e3⟩ : ∃ a3, a3 = a2 + 1 := ⟨_, rfl⟩
      have hw2 : IntKind.i64.wrap ((a2 : Int) + 1) = (a3 : Int) := (IntWalk.i64_in _ (by have h1 := HN.out; have h2 := A0.out; omega)).trans (by omega)
      obtain ⟨a4, e4⟩ : ∃ a4, a4 = a3 + 1 := ⟨_, rfl⟩
      have hw3 : IntKind.i64.wrap ((a3 : Int) + 1) = (a4 : Int) := (IntWalk.i64_in _ (by have h1 := HN.out; have h2 := A0.out; omega)).trans (by omega)
      obtain ⟨a5, e5⟩ : ∃ a5, a5 = a4 + 1 := ⟨_, rfl⟩
      have hw4 : IntKind.i64.wrap ((a4 : Int) + 1) = (a5 : Int) := (IntWalk.i64_in _ (by have h1 := HN.out; have h2 := A0.out; omega)).trans (by omega)
      obtain ⟨a6, e6⟩ : ∃ a6, a6 = a5 + 1 := ⟨_, rfl⟩
      have hw5 : IntKind.i64.wrap ((a5 : Int) + 1) = (a6 : Int) := (IntWalk.i64_in _ (by have h1 := HN.out; have h2 := A0.out; omega)).trans (by omega)
      obtain ⟨a7, e7⟩ : ∃ a7, a7 = a6 + 1 := ⟨_, rfl⟩
      have hw6 : IntKind.i64.wrap ((a6 : Int) + 1) = (a7 : Int) := (IntWalk.i64_in _ (by have h1 := HN.out; have h2 := A0.out; omega)).trans (by omega)
      have hm0 : laws_markText.f 21 (a0 : Int) = some (YtjibadlbiapcmaaDoorX.markT a0) := YtjibadlbiapcmaaDoorX.markText_tells a0 (by have h1 := HN.out; have h2 := A0.out; omega) 21 (Nat.le_refl _)
      have HM0 := Lib.hid hm0
      clear hm0
      have hm1 : laws_markText.f 21 (a1 : Int) = some (YtjibadlbiapcmaaDoorX.markT a1) := YtjibadlbiapcmaaDoorX.markText_tells a1 (by have h1 := HN.out; have h2 := A0.out; omega) 21 (Nat.le_refl _)
      have HM1 := Lib.hid hm1
      clear hm1
      have hm3 : laws_markText.f 21 (a3 : Int) = some (YtjibadlbiapcmaaDoorX.markT a3) := YtjibadlbiapcmaaDoorX.markText_tells a3 (by have h1 := HN.out; have h2 := A0.out; omega) 21 (Nat.le_refl _)
      have HM3 := Lib.hid hm3
      clear hm3
      have hm4 : laws_markText.f 21 (a4 : Int) = some (YtjibadlbiapcmaaDoorX.markT a4) := YtjibadlbiapcmaaDoorX.markText_tells a4 (by have h1 := HN.out; have h2 := A0.out; omega) 21 (Nat.le_refl _)
      have HM4 := Lib.hid hm4
      clear hm4
      have hm6 : laws_markText.f 21 (a6 : Int) = some (YtjibadlbiapcmaaDoorX.markT a6) := YtjibadlbiapcmaaDoorX.markText_tells a6 (by have h1 := HN.out; have h2 := A0.out; omega) 21 (Nat.le_refl _)
      have HM6 := Lib.hid hm6
      clear hm6
      have HE1 := Lib.hid e1
      clear e1
      have HE2 := Lib.hid e2
      clear e2
      have HE3 := Lib.hid e3
      clear e3
      have HE4 := Lib.hid e4
      clear e4
      have HE5 := Lib.hid e5
      clear e5
      have HE6 := Lib.hid e6
      clear e6
      have HE7 := Lib.hid e7
      clear e7
      have hwj : IntKind.i64.wrap ((jj : Int) + 1) = (jj : Int) + 1 := IntWalk.i64_in _ (by have h1 := HN.out; omega)
      go_wp2_with (first | (go_at_call 60; (with_reducible refine (laws_markText.calls 21 (a0 : Int) (YtjibadlbiapcmaaDoorX.markT a0) _ HM0.out).mono ?_); rintro e W0 ⟨rfl, hb0⟩; have RR0 := Lib.hid (Kd.R_below R0.out hb0); have BB0 := Lib.hid (below_step AB.out hb0); have KK0 := Lib.hid (Kept.below (S := (fun k => P0 k)) AK.out hb0); have HG0' := HG0; have hc0 : W0.cell? ⟨g, jj * 7, none⟩ = some (.string (y.f0)) := (dCells RR0.out hlt y HG0.out 0 _ rfl).1; have hf0 : W0.frozen? ⟨g, jj * 7, none⟩ = false := (dCells RR0.out hlt y HG0.out 0 _ rfl).2; clear hb0) | (go_at_call 60; (with_reducible refine (laws_markText.calls 21 (a1 : Int) (YtjibadlbiapcmaaDoorX.markT a1) _ HM1.out).mono ?_); rintro e W1 ⟨rfl, hb1⟩; have S0 : Kd.R k108 108 (W0.setCell ⟨g, jj * 7, none⟩ (.string (YtjibadlbiapcmaaDoorX.markT a0))) w0.heap.size (fun k => P0 k ∨ w.heap.size ≤ k) (.slice (some ⟨g, 0, none⟩) l0.length cap) (L0.set jj (⟨(YtjibadlbiapcmaaDoorX.markT a0), ⟨y.f1.f0, y.f1.f1, y.f1.f2⟩, ⟨y.f2.f0, y.f2.f1, y.f2.f2⟩⟩ : DT)) ∧ World.grownBy W0 (W0.setCell ⟨g, jj * 7, none⟩ (.string (YtjibadlbiapcmaaDoorX.markT a0))) (some g) := dStep RR0.out hlt y HG0.out 0 _ (⟨(YtjibadlbiapcmaaDoorX.markT a0), ⟨y.f1.f0, y.f1.f1, y.f1.f2⟩, ⟨y.f2.f0, y.f2.f1, y.f2.f2⟩⟩ : DT) (by decide) rfl; have HL1 := Lib.hid (show jj < (L0.set jj (⟨(YtjibadlbiapcmaaDoorX.markT a0), ⟨y.f1.f0, y.f1.f1, y.f1.f2⟩, ⟨y.f2.f0, y.f2.f1, y.f2.f2⟩⟩ : DT)).length by rw [List.length_set]; exact HL0.out); have HG1 := Lib.hid (getD_set_same L0 jj (⟨(YtjibadlbiapcmaaDoorX.markT a0), ⟨y.f1.f0, y.f1.f1, y.f1.f2⟩, ⟨y.f2.f0, y.f2.f1, y.f2.f2⟩⟩ : DT) HL0.out); have RR1 := Lib.hid (Kd.R_below S0.1 hb1); have BB1 := Lib.hid (below_step (below_set (BB0.out) hg0) hb1); have KK1 := Lib.hid (Kept.below (S := (fun k => P0 k)) (Kept.of_grown (S := (fun k => P0 k)) S0.2 (KK0.out) (fun k e_ => (Option.some.inj e_) ▸ hPg)) hb1); clear S0; have hc1 : W1.cell? ⟨g, jj * 7 + 1, none⟩ = some (.string (y.f1.f0)) := (dCells RR1.out hlt (⟨(YtjibadlbiapcmaaDoorX.markT a0), ⟨y.f1.f0, y.f1.f1, y.f1.f2⟩, ⟨y.f2.f0, y.f2.f1, y.f2.f2⟩⟩ : DT) HG1.out 1 _ rfl).1; have hf1 : W1.frozen? ⟨g, jj * 7 + 1, none⟩ = false := (dCells RR1.out hlt (⟨(YtjibadlbiapcmaaDoorX.markT a0), ⟨y.f1.f0, y.f1.f1, y.f1.f2⟩, ⟨y.f2.f0, y.f2.f1, y.f2.f2⟩⟩ : DT) HG1.out 1 _ rfl).2; have hc2 : W1.cell? ⟨g, jj * 7 + 2, none⟩ = some (.int .i64 (y.f1.f1)) := (dCells RR1.out hlt (⟨(YtjibadlbiapcmaaDoorX.markT a0), ⟨y.f1.f0, y.f1.f1, y.f1.f2⟩, ⟨y.f2.f0, y.f2.f1, y.f2.f2⟩⟩ : DT) HG1.out 2 _ rfl).1; have hf2 : W1.frozen? ⟨g, jj * 7 + 2, none⟩ = false := (dCells RR1.out hlt (⟨(YtjibadlbiapcmaaDoorX.markT a0), ⟨y.f1.f0, y.f1.f1, y.f1.f2⟩, ⟨y.f2.f0, y.f2.f1, y.f2.f2⟩⟩ : DT) HG1.out 2 _ rfl).2; clear hb1) | (go_at_call 60; (with_reducible refine (laws_markText.calls 21 (a3 : Int) (YtjibadlbiapcmaaDoorX.markT a3) _ HM3.out).mono ?_); rintro e W3 ⟨rfl, hb3⟩; have S1 : Kd.R k108 108 (W1.setCell ⟨g, jj * 7 + 1, none⟩ (.string (YtjibadlbiapcmaaDoorX.markT a1))) w0.heap.size (fun k => P0 k ∨ w.heap.size ≤ k) (.slice (some ⟨g, 0, none⟩) l0.length cap) ((L0.set jj (⟨(YtjibadlbiapcmaaDoorX.markT a0), ⟨y.f1.f0, y.f1.f1, y.f1.f2⟩, ⟨y.f2.f0, y.f2.f1, y.f2.f2⟩⟩ : DT)).set jj (⟨(YtjibadlbiapcmaaDoorX.markT a0), ⟨(YtjibadlbiapcmaaDoorX.markT a1), y.f1.f1, y.f1.f2⟩, ⟨y.f2.f0, y.f2.f1, y.f2.f2⟩⟩ : DT)) ∧ World.grownBy W1 (W1.setCell ⟨g, jj * 7 + 1, none⟩ (.string (YtjibadlbiapcmaaDoorX.markT a1))) (some g) := dStep RR1.out hlt (⟨(YtjibadlbiapcmaaDoorX.markT a0), ⟨y.f1.f0, y.f1.f1, y.f1.f2⟩, ⟨y.f2.f0, y.f2.f1, y.f2.f2⟩⟩ : DT) HG1.out 1 _ (⟨(YtjibadlbiapcmaaDoorX.markT a0), ⟨(YtjibadlbiapcmaaDoorX.markT a1), y.f1.f1, y.f1.f2⟩, ⟨y.f2.f0, y.f2.f1, y.f2.f2⟩⟩ : DT) (by decide) rfl; have HL2 := Lib.hid (show jj < ((L0.set jj (⟨(YtjibadlbiapcmaaDoorX.markT a0), ⟨y.f1.f0, y.f1.f1, y.f1.f2⟩, ⟨y.f2.f0, y.f2.f1, y.f2.f2⟩⟩ : DT)).set jj (⟨(YtjibadlbiapcmaaDoorX.markT a0), ⟨(YtjibadlbiapcmaaDoorX.markT a1), y.f1.f1, y.f1.f2⟩, ⟨y.f2.f0, y.f2.f1, y.f2.f2⟩⟩ : DT)).length by rw [List.length_set]; exact HL1.out); have HG2 := Lib.hid (getD_set_same (L0.set jj (⟨(YtjibadlbiapcmaaDoorX.markT a0), ⟨y.f1.f0, y.f1.f1, y.f1.f2⟩, ⟨y.f2.f0, y.f2.f1, y.f2.f2⟩⟩ : DT)) jj (⟨(YtjibadlbiapcmaaDoorX.markT a0), ⟨(YtjibadlbiapcmaaDoorX.markT a1), y.f1.f1, y.f1.f2⟩, ⟨y.f2.f0, y.f2.f1, y.f2.f2⟩⟩ : DT) HL1.out); have S2 : Kd.R k108 108 ((W1.setCell ⟨g, jj * 7 + 1, none⟩ (.string (YtjibadlbiapcmaaDoorX.markT a1))).setCell ⟨g, jj * 7 + 2, none⟩ (.int .i64 (a2 : Int))) w0.heap.size (fun k => P0 k ∨ w.heap.size ≤ k) (.slice (some ⟨g, 0, none⟩) l0.length cap) (((L0.set jj (⟨(YtjibadlbiapcmaaDoorX.markT a0), ⟨y.f1.f0, y.f1.f1, y.f1.f2⟩, ⟨y.f2.f0, y.f2.f1, y.f2.f2⟩⟩ : DT)).set jj (⟨(YtjibadlbiapcmaaDoorX.markT a0), ⟨(YtjibadlbiapcmaaDoorX.markT a1), y.f1.f1, y.f1.f2⟩, ⟨y.f2.f0, y.f2.f1, y.f2.f2⟩⟩ : DT)).set jj (⟨(YtjibadlbiapcmaaDoorX.markT a0), ⟨(YtjibadlbiapcmaaDoorX.markT a1), ((a2 : Nat) : Int), y.f1.f2⟩, ⟨y.f2.f0, y.f2.f1, y.f2.f2⟩⟩ : DT)) ∧ World.grownBy (W1.setCell ⟨g, jj * 7 + 1, none⟩ (.string (YtjibadlbiapcmaaDoorX.markT a1))) ((W1.setCell ⟨g, jj * 7 + 1, none⟩ (.string (YtjibadlbiapcmaaDoorX.markT a1))).setCell ⟨g, jj * 7 + 2, none⟩ (.int .i64 (a2 : Int))) (some g) := dStep S1.1 hlt (⟨(YtjibadlbiapcmaaDoorX.markT a0), ⟨(YtjibadlbiapcmaaDoorX.markT a1), y.f1.f1, y.f1.f2⟩, ⟨y.f2.f0, y.f2.f1, y.f2.f2⟩⟩ : DT) HG2.out 2 _ (⟨(YtjibadlbiapcmaaDoorX.markT a0), ⟨(YtjibadlbiapcmaaDoorX.markT a1), ((a2 : Nat) : Int), y.f1.f2⟩, ⟨y.f2.f0, y.f2.f1, y.f2.f2⟩⟩ : DT) (by decide) rfl; have HL3 := Lib.hid (show jj < (((L0.set jj (⟨(YtjibadlbiapcmaaDoorX.markT a0), ⟨y.f1.f0, y.f1.f1, y.f1.f2⟩, ⟨y.f2.f0, y.f2.f1, y.f2.f2⟩⟩ : DT)).set jj (⟨(YtjibadlbiapcmaaDoorX.markT a0), ⟨(YtjibadlbiapcmaaDoorX.markT a1), y.f1.f1, y.f1.f2⟩, ⟨y.f2.f0, y.f2.f1, y.f2.f2⟩⟩ : DT)).set jj (⟨(YtjibadlbiapcmaaDoorX.markT a0), ⟨(YtjibadlbiapcmaaDoorX.markT a1), ((a2 : Nat) : Int), y.f1.f2⟩, ⟨y.f2.f0, y.f2.f1, y.f2.f2⟩⟩ : DT)).length by rw [List.length_set]; exact HL2.out); have HG3 := Lib.hid (getD_set_same ((L0.set jj (⟨(YtjibadlbiapcmaaDoorX.markT a0), ⟨y.f1.f0, y.f1.f1, y.f1.f2⟩, ⟨y.f2.f0, y.f2.f1, y.f2.f2⟩⟩ : DT)).set jj (⟨(YtjibadlbiapcmaaDoorX.markT a0), ⟨(YtjibadlbiapcmaaDoorX.markT a1), y.f1.f1, y.f1.f2⟩, ⟨y.f2.f0, y.f2.f1, y.f2.f2⟩⟩ : DT)) jj (⟨(YtjibadlbiapcmaaDoorX.markT a0), ⟨(YtjibadlbiapcmaaDoorX.markT a1), ((a2 : Nat) : Int), y.f1.f2⟩, ⟨y.f2.f0, y.f2.f1, y.f2.f2⟩⟩ : DT) HL2.out); have RR3 := Lib.hid (Kd.R_below S2.1 hb3); have BB3 := Lib.hid (below_step (below_set ((below_set (BB1.out) hg0)) hg0) hb3); have KK3 := Lib.hid (Kept.below (S := (fun k => P0 k)) (Kept.of_grown (S := (fun k => P0 k)) S2.2 ((Kept.of_grown (S := (fun k => P0 k)) S1.2 (KK1.out) (fun k e_ => (Option.some.inj e_) ▸ hPg))) (fun k e_ => (Option.some.inj e_) ▸ hPg)) hb3); clear S1; clear S2; have hc3 : W3.cell? ⟨g, jj * 7 + 3, none⟩ = some (.string (y.f1.f2)) := (dCells RR3.out hlt (⟨(YtjibadlbiapcmaaDoorX.markT a0), ⟨(YtjibadlbiapcmaaDoorX.markT a1), ((a2 : Nat) : Int), y.f1.f2⟩, ⟨y.f2.f0, y.f2.f1, y.f2.f2⟩⟩ : DT) HG3.out 3 _ rfl).1; have hf3 : W3.frozen? ⟨g, jj * 7 + 3, none⟩ = false := (dCells RR3.out hlt (⟨(YtjibadlbiapcmaaDoorX.markT a0), ⟨(YtjibadlbiapcmaaDoorX.markT a1), ((a2 : Nat) : Int), y.f1.f2⟩, ⟨y.f2.f0, y.f2.f1, y.f2.f2⟩⟩ : DT) HG3.out 3 _ rfl).2; clear hb3) | (go_at_call 60; (with_reducible refine (laws_markText.calls 21 (a4 : Int) (YtjibadlbiapcmaaDoorX.markT a4) _ HM4.out).mono ?_); rintro e W4 ⟨rfl, hb4⟩; have S3 : Kd.R k108 108 (W3.setCell ⟨g, jj * 7 + 3, none⟩ (.string (YtjibadlbiapcmaaDoorX.markT a3))) w0.heap.size (fun k => P0 k ∨ w.heap.size ≤ k) (.slice (some ⟨g, 0, none⟩) l0.length cap) ((((L0.set jj (⟨(YtjibadlbiapcmaaDoorX.markT a0), ⟨y.f1.f0, y.f1.f1, y.f1.f2⟩, ⟨y.f2.f0, y.f2.f1, y.f2.f2⟩⟩ : DT)).set jj (⟨(YtjibadlbiapcmaaDoorX.markT a0), ⟨(YtjibadlbiapcmaaDoorX.markT a1), y.f1.f1, y.f1.f2⟩, ⟨y.f2.f0, y.f2.f1, y.f2.f2⟩⟩ : DT)).set jj (⟨(YtjibadlbiapcmaaDoorX.markT a0), ⟨(YtjibadlbiapcmaaDoorX.markT a1), ((a2 : Nat) : Int), y.f1.f2⟩, ⟨y.f2.f0, y.f2.f1, y.f2.f2⟩⟩ : DT)).set jj (⟨(YtjibadlbiapcmaaDoorX.markT a0), ⟨(YtjibadlbiapcmaaDoorX.markT a1), ((a2 : Nat) : Int), (YtjibadlbiapcmaaDoorX.markT a3)⟩, ⟨y.f2.f0, y.f2.f1, y.f2.f2⟩⟩ : DT)) ∧ World.grownBy W3 (W3.setCell ⟨g, jj * 7 + 3, none⟩ (.string (YtjibadlbiapcmaaDoorX.markT a3))) (some g) := dStep RR3.out hlt (⟨(YtjibadlbiapcmaaDoorX.markT a0), ⟨(YtjibadlbiapcmaaDoorX.markT a1), ((a2 : Nat) : Int), y.f1.f2⟩, ⟨y.f2.f0, y.f2.f1, y.f2.f2⟩⟩ : DT) HG3.out 3 _ (⟨(YtjibadlbiapcmaaDoorX.markT a0), ⟨(YtjibadlbiapcmaaDoorX.markT a1), ((a2 : Nat) : Int), (YtjibadlbiapcmaaDoorX.markT a3)⟩, ⟨y.f2.f0, y.f2.f1, y.f2.f2⟩⟩ : DT) (by decide) rfl; have HL4 := Lib.hid (show jj < ((((L0.set jj (⟨(YtjibadlbiapcmaaDoorX.markT a0), ⟨y.f1.f0, y.f1.f1, y.f1.f2⟩, ⟨y.f2.f0, y.f2.f1, y.f2.f2⟩⟩ : DT)).set jj (⟨(YtjibadlbiapcmaaDoorX.markT a0), ⟨(YtjibadlbiapcmaaDoorX.markT a1), y.f1.f1, y.f1.f2⟩, ⟨y.f2.f0, y.f2.f1, y.f2.f2⟩⟩ : DT)).set jj (⟨(YtjibadlbiapcmaaDoorX.markT a0), ⟨(YtjibadlbiapcmaaDoorX.markT a1), ((a2 : Nat) : Int), y.f1.f2⟩, ⟨y.f2.f0, y.f2.f1, y.f2.f2⟩⟩ : DT)).set jj (⟨(YtjibadlbiapcmaaDoorX.markT a0), ⟨(YtjibadlbiapcmaaDoorX.markT a1), ((a2 : Nat) : Int), (YtjibadlbiapcmaaDoorX.markT a3)⟩, ⟨y.f2.f0, y.f2.f1, y.f2.f2⟩⟩ : DT)).length by rw [List.length_set]; exact HL3.out); have HG4 := Lib.hid (getD_set_same (((L0.set jj (⟨(YtjibadlbiapcmaaDoorX.markT a0), ⟨y.f1.f0, y.f1.f1, y.f1.f2⟩, ⟨y.f2.f0, y.f2.f1, y.f2.f2⟩⟩ : DT)).set jj (⟨(YtjibadlbiapcmaaDoorX.markT a0), ⟨(YtjibadlbiapcmaaDoorX.markT a1), y.f1.f1, y.f1.f2⟩, ⟨y.f2.f0, y.f2.f1, y.f2.f2⟩⟩ : DT)).set jj (⟨(YtjibadlbiapcmaaDoorX.markT a0), ⟨(YtjibadlbiapcmaaDoorX.markT a1), ((a2 : Nat) : Int), y.f1.f2⟩, ⟨y.f2.f0, y.f2.f1, y.f2.f2⟩⟩ : DT)) jj (⟨(YtjibadlbiapcmaaDoorX.markT a0), ⟨(YtjibadlbiapcmaaDoorX.markT a1), ((a2 : Nat) : Int), (YtjibadlbiapcmaaDoorX.markT a3)⟩, ⟨y.f2.f0, y.f2.f1, y.f2.f2⟩⟩ : DT) HL3.out); have RR4 := Lib.hid (Kd.R_below S3.1 hb4); have BB4 := Lib.hid (below_step (below_set (BB3.out) hg0) hb4); have KK4 := Lib.hid (Kept.below (S := (fun k => P0 k)) (Kept.of_grown (S := (fun k => P0 k)) S3.2 (KK3.out) (fun k e_ => (Option.some.inj e_) ▸ hPg)) hb4); clear S3; have hc4 : W4.cell? ⟨g, jj * 7 + 4, none⟩ = some (.string (y.f2.f0)) := (dCells RR4.out hlt (⟨(YtjibadlbiapcmaaDoorX.markT a0), ⟨(YtjibadlbiapcmaaDoorX.markT a1), ((a2 : Nat) : Int), (YtjibadlbiapcmaaDoorX.markT a3)⟩, ⟨y.f2.f0, y.f2.f1, y.f2.f2⟩⟩ : DT) HG4.out 4 _ rfl).1; have hf4 : W4.frozen? ⟨g, jj * 7 + 4, none⟩ = false := (dCells RR4.out hlt (⟨(YtjibadlbiapcmaaDoorX.markT a0), ⟨(YtjibadlbiapcmaaDoorX.markT a1), ((a2 : Nat) : Int), (YtjibadlbiapcmaaDoorX.markT a3)⟩, ⟨y.f2.f0, y.f2.f1, y.f2.f2⟩⟩ : DT) HG4.out 4 _ rfl).2; have hc5 : W4.cell? ⟨g, jj * 7 + 5, none⟩ = some (.int .i64 (y.f2.f1)) := (dCells RR4.out hlt (⟨(YtjibadlbiapcmaaDoorX.markT a0), ⟨(YtjibadlbiapcmaaDoorX.markT a1), ((a2 : Nat) : Int), (YtjibadlbiapcmaaDoorX.markT a3)⟩, ⟨y.f2.f0, y.f2.f1, y.f2.f2⟩⟩ : DT) HG4.out 5 _ rfl).1; have hf5 : W4.frozen? ⟨g, jj * 7 + 5, none⟩ = false := (dCells RR4.out hlt (⟨(YtjibadlbiapcmaaDoorX.markT a0), ⟨(YtjibadlbiapcmaaDoorX.markT a1), ((a2 : Nat) : Int), (YtjibadlbiapcmaaDoorX.markT a3)⟩, ⟨y.f2.f0, y.f2.f1, y.f2.f2⟩⟩ : DT) HG4.out 5 _ rfl).2; clear hb4) | (go_at_call 60; (with_reducible refine (laws_markText.calls 21 (a6 : Int) (YtjibadlbiapcmaaDoorX.markT a6) _ HM6.out).mono ?_); rintro e W6 ⟨rfl, hb6⟩; have S4 : Kd.R k108 108 (W4.setCell ⟨g, jj * 7 + 4, none⟩ (.string (YtjibadlbiapcmaaDoorX.markT a4))) w0.heap.size (fun k => P0 k ∨ w.heap.size ≤ k) (.slice (some ⟨g, 0, none⟩) l0.length cap) (((((L0.set jj (⟨(YtjibadlbiapcmaaDoorX.markT a0), ⟨y.f1.f0, y.f1.f1, y.f1.f2⟩, ⟨y.f2.f0, y.f2.f1, y.f2.f2⟩⟩ : DT)).set jj (⟨(YtjibadlbiapcmaaDoorX.markT a0), ⟨(YtjibadlbiapcmaaDoorX.markT a1), y.f1.f1, y.f1.f2⟩, ⟨y.f2.f0, y.f2.f1, y.f2.f2⟩⟩ : DT)).set jj (⟨(YtjibadlbiapcmaaDoorX.markT a0), ⟨(YtjibadlbiapcmaaDoorX.markT a1), ((a2 : Nat) : Int), y.f1.f2⟩, ⟨y.f2.f0, y.f2.f1, y.f2.f2⟩⟩ : DT)).set jj (⟨(YtjibadlbiapcmaaDoorX.markT a0), ⟨(YtjibadlbiapcmaaDoorX.markT a1), ((a2 : Nat) : Int), (YtjibadlbiapcmaaDoorX.markT a3)⟩, ⟨y.f2.f0, y.f2.f1, y.f2.f2⟩⟩ : DT)).set jj (⟨(YtjibadlbiapcmaaDoorX.markT a0), ⟨(YtjibadlbiapcmaaDoorX.markT a1), ((a2 : Nat) : Int), (YtjibadlbiapcmaaDoorX.markT a3)⟩, ⟨(YtjibadlbiapcmaaDoorX.markT a4), y.f2.f1, y.f2.f2⟩⟩ : DT)) ∧ World.grownBy W4 (W4.setCell ⟨g, jj * 7 + 4, none⟩ (.string (YtjibadlbiapcmaaDoorX.markT a4))) (some g) := dStep RR4.out hlt (⟨(YtjibadlbiapcmaaDoorX.markT a0), ⟨(YtjibadlbiapcmaaDoorX.markT a1), ((a2 : Nat) : Int), (YtjibadlbiapcmaaDoorX.markT a3)⟩, ⟨y.f2.f0, y.f2.f1, y.f2.f2⟩⟩ : DT) HG4.out 4 _ (⟨(YtjibadlbiapcmaaDoorX.markT a0), ⟨(YtjibadlbiapcmaaDoorX.markT a1), ((a2 : Nat) : Int), (YtjibadlbiapcmaaDoorX.markT a3)⟩, ⟨(YtjibadlbiapcmaaDoorX.markT a4), y.f2.f1, y.f2.f2⟩⟩ : DT) (by decide) rfl; have HL5 := Lib.hid (show jj < (((((L0.set jj (⟨(YtjibadlbiapcmaaDoorX.markT a0), ⟨y.f1.f0, y.f1.f1, y.f1.f2⟩, ⟨y.f2.f0, y.f2.f1, y.f2.f2⟩⟩ : DT)).set jj (⟨(YtjibadlbiapcmaaDoorX.markT a0), ⟨(YtjibadlbiapcmaaDoorX.markT a1), y.f1.f1, y.f1.f2⟩, ⟨y.f2.f0, y.f2.f1, y.f2.f2⟩⟩ : DT)).set jj (⟨(YtjibadlbiapcmaaDoorX.markT a0), ⟨(YtjibadlbiapcmaaDoorX.markT a1), ((a2 : Nat) : Int), y.f1.f2⟩, ⟨y.f2.f0, y.f2.f1, y.f2.f2⟩⟩ : DT)).set jj (⟨(YtjibadlbiapcmaaDoorX.markT a0), ⟨(YtjibadlbiapcmaaDoorX.markT a1), ((a2 : Nat) : Int), (YtjibadlbiapcmaaDoorX.markT a3)⟩, ⟨y.f2.f0, y.f2.f1, y.f2.f2⟩⟩ : DT)).set jj (⟨(YtjibadlbiapcmaaDoorX.markT a0), ⟨(YtjibadlbiapcmaaDoorX.markT a1), ((a2 : Nat) : Int), (YtjibadlbiapcmaaDoorX.markT a3)⟩, ⟨(YtjibadlbiapcmaaDoorX.markT a4), y.f2.f1, y.f2.f2⟩⟩ : DT)).length by rw [List.length_set]; exact HL4.out); have HG5 := Lib.hid (getD_set_same ((((L0.set jj (⟨(YtjibadlbiapcmaaDoorX.markT a0), ⟨y.f1.f0, y.f1.f1, y.f1.f2⟩, ⟨y.f2.f0, y.f2.f1, y.f2.f2⟩⟩ : DT)).set jj (⟨(YtjibadlbiapcmaaDoorX.markT a0), ⟨(YtjibadlbiapcmaaDoorX.markT a1), y.f1.f1, y.f1.f2⟩, ⟨y.f2.f0, y.f2.f1, y.f2.f2⟩⟩ : DT)).set jj (⟨(YtjibadlbiapcmaaDoorX.markT a0), ⟨(YtjibadlbiapcmaaDoorX.markT a1), ((a2 : Nat) : Int), y.f1.f2⟩, ⟨y.f2.f0, y.f2.f1, y.f2.f2⟩⟩ : DT)).set jj (⟨(YtjibadlbiapcmaaDoorX.markT a0), ⟨(YtjibadlbiapcmaaDoorX.markT a1), ((a2 : Nat) : Int), (YtjibadlbiapcmaaDoorX.markT a3)⟩, ⟨y.f2.f0, y.f2.f1, y.f2.f2⟩⟩ : DT)) jj (⟨(YtjibadlbiapcmaaDoorX.markT a0), ⟨(YtjibadlbiapcmaaDoorX.markT a1), ((a2 : Nat) : Int), (YtjibadlbiapcmaaDoorX.markT a3)⟩, ⟨(YtjibadlbiapcmaaDoorX.markT a4), y.f2.f1, y.f2.f2⟩⟩ : DT) HL4.out); have S5 : Kd.R k108 108 ((W4.setCell ⟨g, jj * 7 + 4, none⟩ (.string (YtjibadlbiapcmaaDoorX.markT a4))).setCell ⟨g, jj * 7 + 5, none⟩ (.int .i64 (a5 : Int))) w0.heap.size (fun k => P0 k ∨ w.heap.size ≤ k) (.slice (some ⟨g, 0, none⟩) l0.length cap) ((((((L0.set jj (⟨(YtjibadlbiapcmaaDoorX.markT a0), ⟨y.f1.f0, y.f1.f1, y.f1.f2⟩, ⟨y.f2.f0, y.f2.f1, y.f2.f2⟩⟩ : DT)).set jj (⟨(YtjibadlbiapcmaaDoorX.markT a0), ⟨(YtjibadlbiapcmaaDoorX.markT a1), y.f1.f1, y.f1.f2⟩, ⟨y.f2.f0, y.f2.f1, y.f2.f2⟩⟩ : DT)).set jj (⟨(YtjibadlbiapcmaaDoorX.markT a0), ⟨(YtjibadlbiapcmaaDoorX.markT a1), ((a2 : Nat) : Int), y.f1.f2⟩, ⟨y.f2.f0, y.f2.f1, y.f2.f2⟩⟩ : DT)).set jj (⟨(YtjibadlbiapcmaaDoorX.markT a0), ⟨(YtjibadlbiapcmaaDoorX.markT a1), ((a2 : Nat) : Int), (YtjibadlbiapcmaaDoorX.markT a3)⟩, ⟨y.f2.f0, y.f2.f1, y.f2.f2⟩⟩ : DT)).set jj (⟨(YtjibadlbiapcmaaDoorX.markT a0), ⟨(YtjibadlbiapcmaaDoorX.markT a1), ((a2 : Nat) : Int), (YtjibadlbiapcmaaDoorX.markT a3)⟩, ⟨(YtjibadlbiapcmaaDoorX.markT a4), y.f2.f1, y.f2.f2⟩⟩ : DT)).set jj (⟨(YtjibadlbiapcmaaDoorX.markT a0), ⟨(YtjibadlbiapcmaaDoorX.markT a1), ((a2 : Nat) : Int), (YtjibadlbiapcmaaDoorX.markT a3)⟩, ⟨(YtjibadlbiapcmaaDoorX.markT a4), ((a5 : Nat) : Int), y.f2.f2⟩⟩ : DT)) ∧ World.grownBy (W4.setCell ⟨g, jj * 7 + 4, none⟩ (.string (YtjibadlbiapcmaaDoorX.markT a4))) ((W4.setCell ⟨g, jj * 7 + 4, none⟩ (.string (YtjibadlbiapcmaaDoorX.markT a4))).setCell ⟨g, jj * 7 + 5, none⟩ (.int .i64 (a5 : Int))) (some g) := dStep S4.1 hlt (⟨(YtjibadlbiapcmaaDoorX.markT a0), ⟨(YtjibadlbiapcmaaDoorX.markT a1), ((a2 : Nat) : Int), (YtjibadlbiapcmaaDoorX.markT a3)⟩, ⟨(YtjibadlbiapcmaaDoorX.markT a4), y.f2.f1, y.f2.f2⟩⟩ : DT) HG5.out 5 _ (⟨(YtjibadlbiapcmaaDoorX.markT a0), ⟨(YtjibadlbiapcmaaDoorX.markT a1), ((a2 : Nat) : Int), (YtjibadlbiapcmaaDoorX.markT a3)⟩, ⟨(YtjibadlbiapcmaaDoorX.markT a4), ((a5 : Nat) : Int), y.f2.f2⟩⟩ : DT) (by decide) rfl; have HL6 := Lib.hid (show jj < ((((((L0.set jj (⟨(YtjibadlbiapcmaaDoorX.markT a0), ⟨y.f1.f0, y.f1.f1, y.f1.f2⟩, ⟨y.f2.f0, y.f2.f1, y.f2.f2⟩⟩ : DT)).set jj (⟨(YtjibadlbiapcmaaDoorX.markT a0), ⟨(YtjibadlbiapcmaaDoorX.markT a1), y.f1.f1, y.f1.f2⟩, ⟨y.f2.f0, y.f2.f1, y.f2.f2⟩⟩ : DT)).set jj (⟨(YtjibadlbiapcmaaDoorX.markT a0), ⟨(YtjibadlbiapcmaaDoorX.markT a1), ((a2 : Nat) : Int), y.f1.f2⟩, ⟨y.f2.f0, y.f2.f1, y.f2.f2⟩⟩ : DT)).set jj (⟨(YtjibadlbiapcmaaDoorX.markT a0), ⟨(YtjibadlbiapcmaaDoorX.markT a1), ((a2 : Nat) : Int), (YtjibadlbiapcmaaDoorX.markT a3)⟩, ⟨y.f2.f0, y.f2.f1, y.f2.f2⟩⟩ : DT)).set jj (⟨(YtjibadlbiapcmaaDoorX.markT a0), ⟨(YtjibadlbiapcmaaDoorX.markT a1), ((a2 : Nat) : Int), (YtjibadlbiapcmaaDoorX.markT a3)⟩, ⟨(YtjibadlbiapcmaaDoorX.markT a4), y.f2.f1, y.f2.f2⟩⟩ : DT)).set jj (⟨(YtjibadlbiapcmaaDoorX.markT a0), ⟨(YtjibadlbiapcmaaDoorX.markT a1), ((a2 : Nat) : Int), (YtjibadlbiapcmaaDoorX.markT a3)⟩, ⟨(YtjibadlbiapcmaaDoorX.markT a4), ((a5 : Nat) : Int), y.f2.f2⟩⟩ : DT)).length by rw [List.length_set]; exact HL5.out); have HG6 := Lib.hid (getD_set_same (((((L0.set jj (⟨(YtjibadlbiapcmaaDoorX.markT a0), ⟨y.f1.f0, y.f1.f1, y.f1.f2⟩, ⟨y.f2.f0, y.f2.f1, y.f2.f2⟩⟩ : DT)).set jj (⟨(YtjibadlbiapcmaaDoorX.markT a0), ⟨(YtjibadlbiapcmaaDoorX.markT a1), y.f1.f1, y.f1.f2⟩, ⟨y.f2.f0, y.f2.f1, y.f2.f2⟩⟩ : DT)).set jj (⟨(YtjibadlbiapcmaaDoorX.markT a0), ⟨(YtjibadlbiapcmaaDoorX.markT a1), ((a2 : Nat) : Int), y.f1.f2⟩, ⟨y.f2.f0, y.f2.f1, y.f2.f2⟩⟩ : DT)).set jj (⟨(YtjibadlbiapcmaaDoorX.markT a0), ⟨(YtjibadlbiapcmaaDoorX.markT a1), ((a2 : Nat) : Int), (YtjibadlbiapcmaaDoorX.markT a3)⟩, ⟨y.f2.f0, y.f2.f1, y.f2.f2⟩⟩ : DT)).set jj (⟨(YtjibadlbiapcmaaDoorX.markT a0), ⟨(YtjibadlbiapcmaaDoorX.markT a1), ((a2 : Nat) : Int), (YtjibadlbiapcmaaDoorX.markT a3)⟩, ⟨(YtjibadlbiapcmaaDoorX.markT a4), y.f2.f1, y.f2.f2⟩⟩ : DT)) jj (⟨(YtjibadlbiapcmaaDoorX.markT a0), ⟨(YtjibadlbiapcmaaDoorX.markT a1), ((a2 : Nat) : Int), (YtjibadlbiapcmaaDoorX.markT a3)⟩, ⟨(YtjibadlbiapcmaaDoorX.markT a4), ((a5 : Nat) : Int), y.f2.f2⟩⟩ : DT) HL5.out); have RR6 := Lib.hid (Kd.R_below S5.1 hb6); have BB6 := Lib.hid (below_step (below_set ((below_set (BB4.out) hg0)) hg0) hb6); have KK6 := Lib.hid (Kept.below (S := (fun k => P0 k)) (Kept.of_grown (S := (fun k => P0 k)) S5.2 ((Kept.of_grown (S := (fun k => P0 k)) S4.2 (KK4.out) (fun k e_ => (Option.some.inj e_) ▸ hPg))) (fun k e_ => (Option.some.inj e_) ▸ hPg)) hb6); clear S4; clear S5; have hc6 : W6.cell? ⟨g, jj * 7 + 6, none⟩ = some (.string (y.f2.f2)) := (dCells RR6.out hlt (⟨(YtjibadlbiapcmaaDoorX.markT a0), ⟨(YtjibadlbiapcmaaDoorX.markT a1), ((a2 : Nat) : Int), (YtjibadlbiapcmaaDoorX.markT a3)⟩, ⟨(YtjibadlbiapcmaaDoorX.markT a4), ((a5 : Nat) : Int), y.f2.f2⟩⟩ : DT) HG6.out 6 _ rfl).1; have hf6 : W6.frozen? ⟨g, jj * 7 + 6, none⟩ = false := (dCells RR6.out hlt (⟨(YtjibadlbiapcmaaDoorX.markT a0), ⟨(YtjibadlbiapcmaaDoorX.markT a1), ((a2 : Nat) : Int), (YtjibadlbiapcmaaDoorX.markT a3)⟩, ⟨(YtjibadlbiapcmaaDoorX.markT a4), ((a5 : Nat) : Int), y.f2.f2⟩⟩ : DT) HG6.out 6 _ rfl).2; clear hb6))
      have S6 : Kd.R k108 108 (W6.setCell ⟨g, jj * 7 + 6, none⟩ (.string (YtjibadlbiapcmaaDoorX.markT a6))) w0.heap.size (fun k => P0 k ∨ w.heap.size ≤ k) (.slice (some ⟨g, 0, none⟩) l0.length cap) (((((((L0.set jj (⟨(YtjibadlbiapcmaaDoorX.markT a0), ⟨y.f1.f0, y.f1.f1, y.f1.f2⟩, ⟨y.f2.f0, y.f2.f1, y.f2.f2⟩⟩ : DT)).set jj (⟨(YtjibadlbiapcmaaDoorX.markT a0), ⟨(YtjibadlbiapcmaaDoorX.markT a1), y.f1.f1, y.f1.f2⟩, ⟨y.f2.f0, y.f2.f1, y.f2.f2⟩⟩ : DT)).set jj (⟨(YtjibadlbiapcmaaDoorX.markT a0), ⟨(YtjibadlbiapcmaaDoorX.markT a1), ((a2 : Nat) : Int), y.f1.f2⟩, ⟨y.f2.f0, y.f2.f1, y.f2.f2⟩⟩ : DT)).set jj (⟨(YtjibadlbiapcmaaDoorX.markT a0), ⟨(YtjibadlbiapcmaaDoorX.markT a1), ((a2 : Nat) : Int), (YtjibadlbiapcmaaDoorX.markT a3)⟩, ⟨y.f2.f0, y.f2.f1, y.f2.f2⟩⟩ : DT)).set jj (⟨(YtjibadlbiapcmaaDoorX.markT a0), ⟨(YtjibadlbiapcmaaDoorX.markT a1), ((a2 : Nat) : Int), (YtjibadlbiapcmaaDoorX.markT a3)⟩, ⟨(YtjibadlbiapcmaaDoorX.markT a4), y.f2.f1, y.f2.f2⟩⟩ : DT)).set jj (⟨(YtjibadlbiapcmaaDoorX.markT a0), ⟨(YtjibadlbiapcmaaDoorX.markT a1), ((a2 : Nat) : Int), (YtjibadlbiapcmaaDoorX.markT a3)⟩, ⟨(YtjibadlbiapcmaaDoorX.markT a4), ((a5 : Nat) : Int), y.f2.f2⟩⟩ : DT)).set jj (⟨(YtjibadlbiapcmaaDoorX.markT a0), ⟨(YtjibadlbiapcmaaDoorX.markT a1), ((a2 : Nat) : Int), (YtjibadlbiapcmaaDoorX.markT a3)⟩, ⟨(YtjibadlbiapcmaaDoorX.markT a4), ((a5 : Nat) : Int), (YtjibadlbiapcmaaDoorX.markT a6)⟩⟩ : DT)) ∧ World.grownBy W6 (W6.setCell ⟨g, jj * 7 + 6, none⟩ (.string (YtjibadlbiapcmaaDoorX.markT a6))) (some g) := dStep RR6.out hlt (⟨(YtjibadlbiapcmaaDoorX.markT a0), ⟨(YtjibadlbiapcmaaDoorX.markT a1), ((a2 : Nat) : Int), (YtjibadlbiapcmaaDoorX.markT a3)⟩, ⟨(YtjibadlbiapcmaaDoorX.markT a4), ((a5 : Nat) : Int), y.f2.f2⟩⟩ : DT) HG6.out 6 _ (⟨(YtjibadlbiapcmaaDoorX.markT a0), ⟨(YtjibadlbiapcmaaDoorX.markT a1), ((a2 : Nat) : Int), (YtjibadlbiapcmaaDoorX.markT a3)⟩, ⟨(YtjibadlbiapcmaaDoorX.markT a4), ((a5 : Nat) : Int), (YtjibadlbiapcmaaDoorX.markT a6)⟩⟩ : DT) (by decide) rfl
      have hmk : (⟨(YtjibadlbiapcmaaDoorX.markT a0), ⟨(YtjibadlbiapcmaaDoorX.markT a1), ((a2 : Nat) : Int), (YtjibadlbiapcmaaDoorX.markT a3)⟩, ⟨(YtjibadlbiapcmaaDoorX.markT a4), ((a5 : Nat) : Int), (YtjibadlbiapcmaaDoorX.markT a6)⟩⟩ : DT) = dMark (n0 + 7 * jj) := by
        unfold dMark
        have h0 := A0.out
        rw [HE6.out, HE5.out, HE4.out, HE3.out, HE2.out, HE1.out, h0] <;> rfl
      have hR6 := S6.1
      simp only [List.set_set] at hR6
      rw [hmk, HE.out] at hR6
      have R7 := Lib.hid hR6
      have B7 := Lib.hid (below_set BB6.out hg0 : Below w0.heap.size w0 (W6.setCell ⟨g, jj * 7 + 6, none⟩ (.string (YtjibadlbiapcmaaDoorX.markT a6))))
      have K7 := Lib.hid (Kept.of_grown (S := (fun k => P0 k)) S6.2 KK6.out (fun k e_ => (Option.some.inj e_) ▸ hPg))
      have A7 := Lib.hid (show a7 = n0 + 7 * (jj + 1) by
        have h0 := A0.out
        have h1 := HE1.out
        have h2 := HE2.out
        have h3 := HE3.out
        have h4 := HE4.out
        have h5 := HE5.out
        have h6 := HE6.out
        have h7 := HE7.out
        omega)
      clear hR6 S6 hmk
      go_roundg (l0.length - (jj + 1))
      case measure => omega
      case rel => exact ⟨jj + 1, a7, by omega, Nat.le_refl _, rfl, by go_num, A7.out, R7.out, B7.out, K7.out⟩
    · have hje : jj = l0.length := by omega
      have hltz : ¬ (jj : Int) < (l0.length : Int) := by omega
      have o3 := AO.out
      have a3 := A0.out
      rw [hje, List.drop_length, List.append_nil] at o3
      rw [hje] at a3
      have O3 := Lib.hid o3
      have A3 := Lib.hid a3
      clear o3 a3 AO A0 hje
      go_wp2
      go_ret
      exact ⟨by show Ending.returned (.int .i64 (a0 : Int)) = _; rw [show (a0 : Int) = (n0 : Int) + 7 * (l0.length : Int) by have := A3.out; omega], O3.out, AB.out, AK.out⟩
end Go.Proofs.YtjibadlbiapcmaaDoor.PX.X

namespace Go.Proofs.YtjibadlbiapcmaaDoor.PX
open Go.RowKit Go.Proofs.YtjibadlbiapcmaaDoorW.PrintWords Go.Proofs.YtjibadlbiapcmaaDoorW.PrintLast Go.Proofs.YtjibadlbiapcmaaDoorW.PrintMore
attribute [local go_sem] max2_int min2_int max_two min_two max_three min_three max_four min_four   -- for this text's walks alone
set_option linter.unusedVariables false
set_option linter.unusedSimpArgs false

/-! ### laws_markDeltaS: function 39 -/
def laws_markDeltaS.f (l0 : List X.DT) (a1 : Int) : Option (Int × (List X.DT)) := if 0 ≤ a1 then (if a1.toNat + 7 * l0.length ≤ 9223372036854775800 then some (((a1.toNat + 7 * l0.length : Nat) : Int), X.dMarks a1.toNat l0.length) else none) else none
theorem laws_markDeltaS.calls (P0_ : Nat → Prop) (u9000_ : Value) (l0 : List X.DT) (a1 : Int) (r1 : Int) (r2 : List X.DT) (w0 w : World) (hB : Below w0.heap.size w0 w) (ho0 : Kd.R k108 108 w w0.heap.size P0_ u9000_ l0) (h : laws_markDeltaS.f l0 a1 = some (r1, r2)) :
  Calls Tryd.prog 39 #[u9000_, .int .i64 a1] w fun e w' => e = .returned (.int .i64 r1) ∧ Kd.R k108 108 w' w0.heap.size (fun k_ => (P0_ k_ ∨ w.heap.size ≤ k_)) u9000_ r2 ∧ Below w0.heap.size w0 w' ∧ Kept w w' (fun k_ => P0_ k_) := by
 unfold laws_markDeltaS.f at h
 by_cases h1 : 0 ≤ a1
 ·
  rw [if_pos h1] at h
  by_cases h2 : a1.toNat + 7 * l0.length ≤ 9223372036854775800
  ·
   rw [if_pos h2] at h
   have h3 := Option.some.inj h
   simp only [Prod.mk.injEq] at h3
   obtain ⟨rfl, rfl⟩ := h3
   obtain ⟨n, rfl⟩ := Int.eq_ofNat_of_zero_le h1
   rw [Int.toNat_natCast] at h2 ⊢
   obtain ⟨A, c, rfl⟩ := Kd.R_slice ho0
   exact X.markD_calls P0_ A c l0 n w0 w hB (Kd.R_mono ho0 (fun _ hk => .inl hk)) h2
  ·
   rw [if_neg h2] at h
   cases h
 ·
  rw [if_neg h1] at h
  cases h

end Go.Proofs.YtjibadlbiapcmaaDoor.PX
