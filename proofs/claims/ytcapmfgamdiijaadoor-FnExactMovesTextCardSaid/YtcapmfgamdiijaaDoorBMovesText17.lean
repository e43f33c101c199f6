/- Texts of this claim set one behind another by wip/bundle.py: XMoves, PXf31, PXf6, XLawMovesText. -/
import Derived.Test.YtcapmfgamdiijaaDoorBMovesText14
import Derived.Deep.RegionHeld3
import Derived.Shelf.Strings.BuilderK
import Derived.Shelf.Strings.MapGrows
import Derived.Test.YtcapmfgamdiijaaDoorBMovesText12
import Derived.Test.YtcapmfgamdiijaaDoorBMovesText16
import Derived.Test.YtcapmfgamdiijaaDoorBMovesText10
import Derived.Test.YtcapmfgamdiijaaDoorBMovesText15
import Derived.Test.YtcapmfgamdiijaaDoorBMovesText5
import Derived.Test.YtcapmfgamdiijaaDoorBMovesText11
namespace Go.Proofs.YtcapmfgamdiijaaDoor.PX.X
open Go Go.RowKit Go.Lib Go.Proofs.YtcapmfgamdiijaaDoorW.PrintWords Go.Proofs.YtcapmfgamdiijaaDoor.PX
set_option linter.unusedVariables false
set_option linter.unusedSimpArgs false
abbrev MV := S116
def scoreC (n : Int) : Int := if 0 ≤ n ∧ n ≤ 1000 then 0 else 3
def moveC (x : MV) : Int := if impl_PathFault.v x.f0 = 0 then (if impl_PathFault.v x.f1 = 0 then scoreC x.f2 else impl_PathFault.v x.f1) else impl_PathFault.v x.f0
def moveB (x : MV) : ByteArray := (((((x.f0 ++ (⟨#[32, 45, 62, 32]⟩ : ByteArray)) ++ x.f1) ++ (⟨#[32]⟩ : ByteArray)) ++ (⟨(Lib.itoa x.f2).toArray⟩ : ByteArray)) ++ (⟨#[10]⟩ : ByteArray))
def moveL (l : List MV) : List UInt8 := l.flatMap fun x => (moveB x).data.toList
def codeV (c1 c2 c3 : Int) : Int := if c1 = 0 then (if c2 = 0 then c3 else c2) else c1
theorem firstCode_three (a b c : Int) : impl_firstCode.f 5 [a, b, c] = some (codeV a b c) := by
  unfold impl_firstCode.f codeV
  simp only [impl_firstCode.l0, List.length_cons, List.length_nil]
  have w0 : wrap64 ((0 : Int) + 1) = 1 := by unfold wrap64; decide
  have w1 : wrap64 ((1 : Int) + 1) = 2 := by unfold wrap64; decide
  have w2 : wrap64 ((2 : Int) + 1) = 3 := by unfold wrap64; decide
  simp only [w0, w1, w2, rd]
  by_cases ha : a = 0
  · subst ha
    by_cases hb : b = 0
    · subst hb
      by_cases hc : c = 0
      · subst hc; simp
      · simp [hc]
    · simp [hb]
  · simp [ha]
/-- What the drawn regions keep: the element's own cells, and all that was there. -/
def keepM (ge : Nat) (y : MV) (W2 w' : World) : Prop := w'.cell? ⟨ge, 0, none⟩ = some (.string y.f0) ∧ w'.cell? ⟨ge, 1, none⟩ = some (.string y.f1) ∧ w'.cell? ⟨ge, 2, none⟩ = some (.int .i64 y.f2) ∧ Below W2.heap.size W2 w'
theorem keep4 {ge : Nat} {a b c : Value} {W2 w' w'' : World} (hge : ge < W2.heap.size) (h : w'.cell? ⟨ge, 0, none⟩ = some a ∧ w'.cell? ⟨ge, 1, none⟩ = some b ∧ w'.cell? ⟨ge, 2, none⟩ = some c ∧ Below W2.heap.size W2 w') (hb : Below w'.heap.size w' w'') : w''.cell? ⟨ge, 0, none⟩ = some a ∧ w''.cell? ⟨ge, 1, none⟩ = some b ∧ w''.cell? ⟨ge, 2, none⟩ = some c ∧ Below W2.heap.size W2 w'' := by
  obtain ⟨h0, h1, h2, h3⟩ := h
  have hlt : ge < w'.heap.size := Nat.lt_of_lt_of_le hge h3.size
  exact ⟨(hb.cell hlt).trans h0, (hb.cell hlt).trans h1, (hb.cell hlt).trans h2, h3.trans (hb.mono h3.size)⟩
theorem keepD {ge : Nat} {a b c : Value} {W2 w' : World} {n : Nat} (h : w'.cell? ⟨ge, 0, none⟩ = some a ∧ w'.cell? ⟨ge, 1, none⟩ = some b ∧ w'.cell? ⟨ge, 2, none⟩ = some c ∧ Below W2.heap.size W2 w') : (w'.drewN n).cell? ⟨ge, 0, none⟩ = some a ∧ (w'.drewN n).cell? ⟨ge, 1, none⟩ = some b ∧ (w'.drewN n).cell? ⟨ge, 2, none⟩ = some c ∧ Below W2.heap.size W2 (w'.drewN n) :=
  ⟨h.1, h.2.1, h.2.2.1, pw_below_drewN h.2.2.2 n⟩
theorem keepE {ge : Nat} {a b c : Value} {W2 w' : World} {n m : Nat} (h : (w'.drewN n).cell? ⟨ge, 0, none⟩ = some a ∧ (w'.drewN n).cell? ⟨ge, 1, none⟩ = some b ∧ (w'.drewN n).cell? ⟨ge, 2, none⟩ = some c ∧ Below W2.heap.size W2 (w'.drewN n)) : (w'.drewN m).cell? ⟨ge, 0, none⟩ = some a ∧ (w'.drewN m).cell? ⟨ge, 1, none⟩ = some b ∧ (w'.drewN m).cell? ⟨ge, 2, none⟩ = some c ∧ Below W2.heap.size W2 (w'.drewN m) :=
  ⟨h.1, h.2.1, h.2.2.1, ⟨h.2.2.2.os, h.2.2.2.tape, h.2.2.2.output, h.2.2.2.size, h.2.2.2.block⟩⟩
theorem keepA {ge : Nat} {a b c : Value} {W2 w' : World} {o : Obj} (hge : ge < W2.heap.size) (h : w'.cell? ⟨ge, 0, none⟩ = some a ∧ w'.cell? ⟨ge, 1, none⟩ = some b ∧ w'.cell? ⟨ge, 2, none⟩ = some c ∧ Below W2.heap.size W2 w') : (w'.alloc o).cell? ⟨ge, 0, none⟩ = some a ∧ (w'.alloc o).cell? ⟨ge, 1, none⟩ = some b ∧ (w'.alloc o).cell? ⟨ge, 2, none⟩ = some c ∧ Below W2.heap.size W2 (w'.alloc o) :=
  keep4 hge h ((Below.refl _ _).alloc (Nat.le_refl _) _)
def cells3 (ge : Nat) (a b : ByteArray) (c : Int) (w' : World) : Prop := w'.cell? ⟨ge, 0, none⟩ = some (.string a) ∧ w'.cell? ⟨ge, 1, none⟩ = some (.string b) ∧ w'.cell? ⟨ge, 2, none⟩ = some (.int .i64 c) ∧ w'.heap[ge]? = some (.cells #[.string a, .string b, .int .i64 c] 116 (0, 0))
theorem s2_of {ge : Nat} {a b : ByteArray} {c : Int} {w' : World} (h : w'.heap[ge]? = some (.cells #[.string a, .string b, .int .i64 c] 116 (0, 0))) : w'.cell? ⟨ge, 0, none⟩ = some (.string a) ∧ w'.cell? ⟨ge, 1, none⟩ = some (.string b) ∧ w'.cell? ⟨ge, 2, none⟩ = some (.int .i64 c) ∧ w'.heap[ge]? = some (.cells #[.string a, .string b, .int .i64 c] 116 (0, 0)) :=
  ⟨(blk_cell h 0).trans rfl, (blk_cell h 1).trans rfl, (blk_cell h 2).trans rfl, h⟩
theorem s2_below {ge : Nat} {a b : ByteArray} {c : Int} {w' w'' : World} (h : w'.cell? ⟨ge, 0, none⟩ = some (.string a) ∧ w'.cell? ⟨ge, 1, none⟩ = some (.string b) ∧ w'.cell? ⟨ge, 2, none⟩ = some (.int .i64 c) ∧ w'.heap[ge]? = some (.cells #[.string a, .string b, .int .i64 c] 116 (0, 0))) (hb : Below w'.heap.size w' w'') : w''.cell? ⟨ge, 0, none⟩ = some (.string a) ∧ w''.cell? ⟨ge, 1, none⟩ = some (.string b) ∧ w''.cell? ⟨ge, 2, none⟩ = some (.int .i64 c) ∧ w''.heap[ge]? = some (.cells #[.string a, .string b, .int .i64 c] 116 (0, 0)) :=
  s2_of (blk_below h.2.2.2 hb)
theorem s2_others {ge gb : Nat} {a b : ByteArray} {c : Int} {w' w'' : World} (h : w'.cell? ⟨ge, 0, none⟩ = some (.string a) ∧ w'.cell? ⟨ge, 1, none⟩ = some (.string b) ∧ w'.cell? ⟨ge, 2, none⟩ = some (.int .i64 c) ∧ w'.heap[ge]? = some (.cells #[.string a, .string b, .int .i64 c] 116 (0, 0))) (hne : ge ≠ gb) (hok : Lib.OthersKept 5 (some gb) w' w'') : w''.cell? ⟨ge, 0, none⟩ = some (.string a) ∧ w''.cell? ⟨ge, 1, none⟩ = some (.string b) ∧ w''.cell? ⟨ge, 2, none⟩ = some (.int .i64 c) ∧ w''.heap[ge]? = some (.cells #[.string a, .string b, .int .i64 c] 116 (0, 0)) :=
  s2_of (hok ge _ h.2.2.2 (fun e => hne (Option.some.inj e)) (fun c fz e => by injection e with _ e2 _; exact absurd e2 (by decide)))
theorem moveC_zero (x : MV) (h : moveC x = 0) : 0 ≤ x.f2 ∧ x.f2 ≤ 1000 := by
  unfold moveC scoreC at h
  by_cases h1 : impl_PathFault.v x.f0 = 0
  · rw [if_pos h1] at h
    by_cases h2 : impl_PathFault.v x.f1 = 0
    · rw [if_pos h2] at h
      by_cases h3 : 0 ≤ x.f2 ∧ x.f2 ≤ 1000
      · exact h3
      · rw [if_neg h3] at h
        cases h
    · rw [if_neg h2] at h
      exact absurd h h2
  · rw [if_neg h1] at h
    exact absurd h h1
theorem itoa_le (n : Int) (h0 : 0 ≤ n) (h1 : n ≤ 1000) : (Lib.itoa n).length ≤ 1001 := by
  obtain ⟨u, rfl⟩ : ∃ u : Nat, n = (u : Int) := ⟨n.toNat, by omega⟩
  rw [Lib.itoa_nonneg]
  have := YtcapmfgamdiijaaDoorX.digits_le u u (Nat.le_refl _)
  omega
theorem moveB_size (x : MV) : (moveB x).size = x.f0.size + 4 + x.f1.size + 1 + (Lib.itoa x.f2).length + 1 := by
  unfold moveB
  simp only [ByteArray.size_append]
  have z1 : (⟨#[32]⟩ : ByteArray).size = 1 := rfl
  have z2 : (⟨#[10]⟩ : ByteArray).size = 1 := rfl
  have z3 : (⟨#[32, 45, 62, 32]⟩ : ByteArray).size = 4 := rfl
  have z4 : (⟨(Lib.itoa x.f2).toArray⟩ : ByteArray).size = (Lib.itoa x.f2).length := List.size_toArray
  omega
open Go.Proofs in
theorem writeStringK (B b : Nat) (bs : List Value) (s : ByteArray) (w : World) (h : Lib.IsBuilderF 122 5 B b bs w) (hlen : bs.length + s.size ≤ 140737488355328) (hBw : B ≤ w.heap.size) :
    Calls Tryd.prog 99 #[.pointer (some ⟨b, 0, none⟩), .string s] w fun e w' => e = .returned (.tuple #[.int .i64 s.size, .nilIface]) ∧ (Lib.BuilderAtF 122 5 B b (.pointer (some ⟨b, 0, none⟩)) (bs ++ Lib.strCells s) w' ∧ Below B w w' ∧ Lib.OthersKept 5 (some b) w w') :=
  Any.Builder_WriteString_k Tryd.lays166 Tryd.Builder_Extra_166 B b bs s w h hlen hBw
open Go.Proofs in
theorem stringOfK (B b : Nat) (l : List UInt8) (w : World) (h : Lib.IsBuilderF 122 5 B b (Lib.byteCells l) w) (hBw : B ≤ w.heap.size) :
    Calls Tryd.prog 101 #[.pointer (some ⟨b, 0, none⟩)] w fun e w' => e = .returned (.string ⟨l.toArray⟩) ∧ Below B w w' :=
  (Any.Builder_String_any_k Tryd.lays169 Tryd.Builder_Extra_169 B b l w h hBw).mono fun e w' h => ⟨h.1, h.2.2.1⟩
theorem three_row (W : World) (a b c : Int) : Kd.C (Kd.int .i64) (W.alloc (.cells #[.int .i64 a, .int .i64 b, .int .i64 c] 2 (0, 0))) (some ⟨W.heap.size, 0, none⟩) 3 [a, b, c] := by
  refine Kd.C_of_reads (d := 0) ⟨rfl, by decide, fun _ => ⟨_, rfl, fun j hj => ?_⟩⟩
  match j, hj with
  | 0, _ => exact (blk_cell (blk_new W _) 0).trans rfl
  | 1, _ => exact (blk_cell (blk_new W _) 1).trans rfl
  | 2, _ => exact (blk_cell (blk_new W _) 2).trans rfl
def movV : List MV → List UInt8 → Int × ByteArray
  | [], acc => (0, ⟨acc.toArray⟩)
  | x :: l, acc => if moveC x = 0 then movV l (acc ++ (moveB x).data.toList) else (moveC x, ⟨#[]⟩)
def moveOk (x : MV) : Prop := x.f0.size ≤ 1048576 ∧ x.f1.size ≤ 1048576 ∧ -9223372036854775808 ≤ x.f2 ∧ x.f2 ≤ 9223372036854775807
set_option maxHeartbeats 4000000 in
set_option maxRecDepth 8000 in
theorem movesText_calls (A0 : Option Addr) (c0 : Nat) (l0 : List MV) (w : World) (hr0 : Kd.C k116 w A0 l0.length l0) (hG : Gt w) (hs : ∀ x ∈ l0, moveOk x) (hbig : l0.length ≤ 1048576) :
    Calls Tryd.prog 31 #[.slice A0 l0.length c0] w fun e w' => e = .returned (.agg #[.int .i64 (if l0.length > 60 then (2, (⟨#[]⟩ : ByteArray)) else movV l0 []).1, .string (if l0.length > 60 then (2, (⟨#[]⟩ : ByteArray)) else movV l0 []).2]) ∧ Below w.heap.size w w' := by
  have HR := Lib.hid hr0
  have HS := Lib.hid hs
  have HG := Lib.hid hG
  clear hr0 hs hG
  by_cases h60 : l0.length > 60
  · rw [if_pos h60]
    have hz : (l0.length : Int) > 60 := by omega
    go_enter Tryd.func31, Tryd.ntmps31
    go_wp2_with (first | ((with_reducible refine gate_dst (N := 2) rfl ?_); refine box_event ?hg (N := 2) ?hd (cs := #[.int .i64 0, .string (⟨#[]⟩ : ByteArray)]) (t := 46) ?hr ?_; (case hd => rfl); (case hg => rfl); (case hr => first | (go_simp; done) | (go_simp; rfl)); intro gr hgr w1 hbox hb1; have hcr0 : w1.cell? ⟨gr, 0, none⟩ = some (.int .i64 0) := (blk_cell hbox 0).trans rfl; have hcr1 : w1.cell? ⟨gr, 1, none⟩ = some (.string (⟨#[]⟩ : ByteArray)) := (blk_cell hbox 1).trans rfl; have hfr0 := blk_frozen hbox 0; have hfr1 := blk_frozen hbox 1; have HB1 := Lib.hid hb1; have HGR := Lib.hid hgr; have HRB := Lib.hid hbox; clear hbox hb1 hgr))
    refine bodyPost_ret (results_cell_row rfl _ _ gr 46 #[.int .i64 2, .string (⟨#[]⟩ : ByteArray)] (0, 0) _ rfl (blk_set (blk_set HRB.out 0 (.int .i64 2)) 1 (.string (⟨#[]⟩ : ByteArray))) Tryd.underlying46 rfl (by kernel_rfl)) rfl ?_
    have hgr : w.heap.size ≤ gr := Nat.le_of_eq HGR.out.symm
    exact ⟨rfl, below_set (below_set HB1.out hgr) hgr⟩
  · rw [if_neg h60]
    have hz : ¬ (l0.length : Int) > 60 := by omega
    go_enter Tryd.func31, Tryd.ntmps31
    go_wp2_with (first | ((with_reducible refine gate_dst (N := 2) rfl ?_); refine box_event ?hg (N := 2) ?hd (cs := #[.int .i64 0, .string (⟨#[]⟩ : ByteArray)]) (t := 46) ?hr ?_; (case hd => rfl); (case hg => rfl); (case hr => first | (go_simp; done) | (go_simp; rfl)); intro gr hgr w1 hboxr hb1; have hcr0 : w1.cell? ⟨gr, 0, none⟩ = some (.int .i64 0) := (blk_cell hboxr 0).trans rfl; have hcr1 : w1.cell? ⟨gr, 1, none⟩ = some (.string (⟨#[]⟩ : ByteArray)) := (blk_cell hboxr 1).trans rfl; have hfr0 := blk_frozen hboxr 0; have hfr1 := blk_frozen hboxr 1; have HB1 := Lib.hid hb1; have HGR := Lib.hid hgr; have HRB := Lib.hid hboxr; clear hboxr hb1 hgr) | ((with_reducible refine gate_dst (N := 3) rfl ?_); refine box_event ?hg (N := 3) ?hd (cs := #[.pointer none, .slice none 0 0]) (t := 122) ?hr ?_; (case hd => rfl); (case hg => rfl); (case hr => first | (go_simp; done) | (go_simp; rfl)); intro gb hgb w2 hbox hb2; have hcz0 : w2.cell? ⟨gb, 0, none⟩ = some (.pointer none) := (blk_cell hbox 0).trans rfl; have hcz1 : w2.cell? ⟨gb, 1, none⟩ = some (.slice none 0 0) := (blk_cell hbox 1).trans rfl; have hfz0 := blk_frozen hbox 0; have hfz1 := blk_frozen hbox 1; have HBX := Lib.hid hbox; have HB2 := Lib.hid hb2; have HGB := Lib.hid hgb; clear hbox hb2 hgb))
    have hB0 : w1.heap.size ≤ gb := Nat.le_of_eq HGB.out.symm
    have hgr1 : gr < w1.heap.size := blk_lt HRB.out
    have hI0 : Lib.IsBuilderF 122 5 w1.heap.size gb (Lib.byteCells (moveL (l0.take 0))) ((w2.setCell ⟨gb, 0, none⟩ (.pointer none)).setCell ⟨gb, 1, none⟩ (.slice none 0 0)) := by
      refine Lib.IsBuilderF.of (.inl ⟨hB0, .slice none 0 0, ?_, World.ownsRow_nil _ _ _ _, by simp [Value.ownBlock]⟩)
      exact blk_set (blk_set HBX.out 0 (.pointer none)) 1 (.slice none 0 0)
    have hW0 : Below w1.heap.size w1 ((w2.setCell ⟨gb, 0, none⟩ (.pointer none)).setCell ⟨gb, 1, none⟩ (.slice none 0 0)) := below_set (below_set HB2.out hB0) hB0
    generalize ((w2.setCell ⟨gb, 0, none⟩ (.pointer none)).setCell ⟨gb, 1, none⟩ (.slice none 0 0)) = W0 at hI0 hW0 ⊢
    clear hcz0 hcz1 hfz0 hfz1
    clear HBX HB2
    have hgw : w.heap.size ≤ gr := Nat.le_of_eq HGR.out.symm
    go_loopg [14] l0.length (fun gg s14 wr => ∃ kk : Nat, kk ≤ l0.length ∧ l0.length - kk ≤ gg ∧ s14 = .int .i64 kk ∧ Aside (Below w1.heap.size w1 wr) ∧ Aside (Lib.IsBuilderF 122 5 w1.heap.size gb (Lib.byteCells (moveL (l0.take kk))) wr) ∧ Aside (movV l0 [] = movV (l0.drop kk) (moveL (l0.take kk))) ∧ Aside ((moveL (l0.take kk)).length ≤ kk * 3000000))
    case atStart => exact ⟨0, Nat.zero_le _, by omega, rfl, hW0, hI0, rfl, Nat.zero_le _⟩
    case round =>
      obtain ⟨kk, hkk, hg, rfl, BW, AI, AR, AL⟩ := hrel
      clear hI0 hW0 hcr0 hcr1 hfr0 hfr1
      by_cases hlt : kk < l0.length
      · have hltz : (kk : Int) < (l0.length : Int) := by omega
        have hkz : (0 : Int) ≤ (kk : Int) := by omega
        have BWW : Below w.heap.size w wr := HB1.out.trans (BW.out.mono HB1.out.size)
        obtain ⟨ad, rfl, q0, q1, q2⟩ := at_T116 HR.out (kk : Int) hkz hltz
        replace q0 := (BWW.cell (World.block_lt_of_cell? w _ q0)).trans q0
        replace q1 := (BWW.cell (World.block_lt_of_cell? w _ q1)).trans q1
        replace q2 := (BWW.cell (World.block_lt_of_cell? w _ q2)).trans q2
        rw [Int.toNat_natCast] at q0 q1 q2
        have hx : rd_T116 l0 (kk : Int) = l0[kk] := by
          show l0.getD ((kk : Int)).toNat _ = _
          rw [Int.toNat_natCast, List.getD_eq_getElem?_getD, List.getElem?_eq_getElem hlt, Option.getD_some]
        have hok := HS.out _ (List.getElem_mem hlt)
        have hdrop : l0.drop kk = l0[kk] :: l0.drop (kk + 1) := List.drop_eq_getElem_cons hlt
        have htake : moveL (l0.take (kk + 1)) = moveL (l0.take kk) ++ (moveB l0[kk]).data.toList := by
          rw [List.take_succ_eq_append_getElem hlt]
          unfold moveL
          rw [List.flatMap_append]
          simp
        rw [hx] at q0 q1 q2
        have HGW : Gt wr := HG.out.below BWW
        clear hx BWW
        have hres := AR.out
        rw [hdrop] at hres
        clear AR hdrop
        generalize l0[kk] = y at q0 q1 q2 htake hok hres
        have HT := Lib.hid htake
        have HO := Lib.hid hok
        have HV := Lib.hid hres
        have HGT := Lib.hid HGW
        clear htake hok hres HGW
        go_wp2_with (first | ((with_reducible refine gate_dst (N := 5) rfl ?_); refine box_event ?hg (N := 5) ?hd (cs := #[.string (⟨#[]⟩ : ByteArray), .string (⟨#[]⟩ : ByteArray), .int .i64 0]) (t := 116) ?hr ?_; (case hd => rfl); (case hg => rfl); (case hr => first | (go_simp; done) | (go_simp; rfl)); intro ge hge w2 hbox hb2; have hcz0 : w2.cell? ⟨ge, 0, none⟩ = some (.string (⟨#[]⟩ : ByteArray)) := (blk_cell hbox 0).trans rfl; have hcz1 : w2.cell? ⟨ge, 1, none⟩ = some (.string (⟨#[]⟩ : ByteArray)) := (blk_cell hbox 1).trans rfl; have hcz2 : w2.cell? ⟨ge, 2, none⟩ = some (.int .i64 0) := (blk_cell hbox 2).trans rfl; have hfz0 := blk_frozen hbox 0; have hfz1 := blk_frozen hbox 1; have hfz2 := blk_frozen hbox 2; have HB2 := Lib.hid hb2; have HGE := Lib.hid hge; have HRW := Lib.hid hbox; clear hbox hb2 hge))
        have hge : wr.heap.size ≤ ge := Nat.le_of_eq HGE.out.symm
        have hrow : (((w2.setCell ⟨ge, 0, none⟩ (.string y.f0)).setCell ⟨ge, 1, none⟩ (.string y.f1)).setCell ⟨ge, 2, none⟩ (.int .i64 y.f2)).heap[ge]? = some (.cells #[.string y.f0, .string y.f1, .int .i64 y.f2] 116 (0, 0)) := blk_set (blk_set (blk_set HRW.out 0 _) 1 _) 2 _
        have hbel : Below wr.heap.size wr (((w2.setCell ⟨ge, 0, none⟩ (.string y.f0)).setCell ⟨ge, 1, none⟩ (.string y.f1)).setCell ⟨ge, 2, none⟩ (.int .i64 y.f2)) := below_set (below_set (below_set HB2.out hge) hge) hge
        generalize (((w2.setCell ⟨ge, 0, none⟩ (.string y.f0)).setCell ⟨ge, 1, none⟩ (.string y.f1)).setCell ⟨ge, 2, none⟩ (.int .i64 y.f2)) = W2 at hrow hbel ⊢
        clear hcz0 hcz1 hcz2 hfz0 hfz1 hfz2 HRW HB2 q0 q1 q2
        have hgl : ge < W2.heap.size := blk_lt hrow
        have hK0 : keepM ge y W2 W2 := ⟨(blk_cell hrow 0).trans rfl, (blk_cell hrow 1).trans rfl, (blk_cell hrow 2).trans rfl, Below.refl _ _⟩
        have HBEL := Lib.hid hbel
        have HRO := Lib.hid hrow
        clear hbel hrow
        have hp0 : impl_PathFault.f y.f0 = some (impl_PathFault.v y.f0) := by
          unfold impl_PathFault.f
          rw [if_pos (by have := HO.out.1; omega)]
        have hp1 : impl_PathFault.f y.f1 = some (impl_PathFault.v y.f1) := by
          unfold impl_PathFault.f
          rw [if_pos (by have := HO.out.2.1; omega)]
        have hwi : impl_within.f y.f2 0 1000 = some (decide (0 ≤ y.f2) && decide (y.f2 ≤ 1000)) := by
          unfold impl_within.f
          by_cases h : y.f2 ≥ 0
          · rw [if_pos h, decide_eq_true h, Bool.true_and]
          · rw [if_neg h, decide_eq_false (by omega), Bool.false_and]
        have hci : impl_codeIf.f (!(decide (0 ≤ y.f2) && decide (y.f2 ≤ 1000))) 3 = some (scoreC y.f2) := by
          unfold impl_codeIf.f scoreC
          by_cases h1 : 0 ≤ y.f2 <;> by_cases h2 : y.f2 ≤ 1000 <;> simp [h1, h2]
        have hfc := firstCode_three (impl_PathFault.v y.f0) (impl_PathFault.v y.f1) (scoreC y.f2)
        have HP0 := Lib.hid hp0
        have HP1 := Lib.hid hp1
        have HWI := Lib.hid hwi
        have HCI := Lib.hid hci
        have HFC := Lib.hid hfc
        have hcode : codeV (impl_PathFault.v y.f0) (impl_PathFault.v y.f1) (scoreC y.f2) = moveC y := rfl
        rw [hcode] at hfc
        have HFC := Lib.hid hfc
        clear hp0 hp1 hwi hci hfc hcode
        generalize impl_PathFault.v y.f0 = v0 at HP0 HFC
        generalize impl_PathFault.v y.f1 = v1 at HP1 HFC
        generalize (decide (0 ≤ y.f2) && decide (y.f2 ≤ 1000)) = b2 at HWI HCI
        generalize scoreC y.f2 = v2 at HCI HFC
        have K1 : W2.drew.cell? ⟨ge, 0, none⟩ = some (.string y.f0) ∧ W2.drew.cell? ⟨ge, 1, none⟩ = some (.string y.f1) ∧ W2.drew.cell? ⟨ge, 2, none⟩ = some (.int .i64 y.f2) ∧ Below W2.heap.size W2 W2.drew := ⟨hK0.1, hK0.2.1, hK0.2.2.1, hK0.2.2.2.drew⟩
        clear hK0
        go_region_held3 (fun w' => w'.cell? ⟨ge, 0, none⟩ = some (.string y.f0) ∧ w'.cell? ⟨ge, 1, none⟩ = some (.string y.f1) ∧ w'.cell? ⟨ge, 2, none⟩ = some (.int .i64 y.f2) ∧ Below W2.heap.size W2 w') (with_reducible first | assumption | (refine keep4 hgl ?_ hb; assumption) | (refine keepD ?_; assumption) | (apply keepE; assumption) | (refine keepA hgl ?_; assumption))
          (first
            | (go_at_call 90; first | (with_reducible refine (impl_PathFault.calls y.f0 _ _ HP0.out).mono ?_; rintro e w' ⟨rfl, hb⟩) | (with_reducible refine (impl_PathFault.calls y.f1 _ _ HP1.out).mono ?_; rintro e w' ⟨rfl, hb⟩))
            | (go_at_call 83; refine (impl_within.calls y.f2 0 1000 _ _ HWI.out).mono ?_; rintro e w' ⟨rfl, ⟨nd, rfl⟩⟩)
            | (go_at_call 82; refine (impl_codeIf.calls _ 3 _ _ HCI.out).mono ?_; rintro e w' ⟨rfl, ⟨nd, rfl⟩⟩)
            | (go_at_call 72; refine (impl_firstCode.calls 5 _ 3 [v0, v1, v2] _ _ (three_row _ v0 v1 v2) (Nat.le_refl 3) HFC.out).mono ?_; rintro e w' ⟨rfl, ⟨nd, rfl⟩⟩))
        rename_i hHeld
        generalize World.drewN (World.alloc (World.drewN w' _) _) nd = W3 at hHeld ⊢
        have hK3 := hHeld.2.2.2
        have hro3 : W3.heap[ge]? = some (.cells #[.string y.f0, .string y.f1, .int .i64 y.f2] 116 (0, 0)) := (hK3.block ge hgl).trans HRO.out
        have hW23 : Below wr.heap.size wr W3 := HBEL.out.trans (hK3.mono HBEL.out.size)
        have HW3 : Below w1.heap.size w1 W3 := BW.out.trans (hW23.mono BW.out.size)
        have HI3 : Lib.IsBuilderF 122 5 w1.heap.size gb (Lib.byteCells (moveL (l0.take kk))) W3 := AI.out.below hW23
        have HG3 : Gt W3 := HGT.out.below hW23
        have hrr : W3.heap[gr]? = some (.cells #[.int .i64 0, .string (⟨#[]⟩ : ByteArray)] 46 (0, 0)) := (HW3.block gr hgr1).trans HRB.out
        have hV : movV l0 [] = if moveC y = 0 then movV (l0.drop (kk + 1)) (moveL (l0.take kk) ++ (moveB y).data.toList) else (moveC y, ⟨#[]⟩) := HV.out
        have hmz := moveC_zero y
        have RO3 := Lib.hid hro3
        have RI3 := Lib.hid HI3
        have RW3 := Lib.hid HW3
        have RG3 := Lib.hid HG3
        have RR3 := Lib.hid hrr
        have RV := Lib.hid hV
        have RMZ := Lib.hid hmz
        have c0 := hHeld.1
        have c1 := hHeld.2.1
        have c2 := hHeld.2.2.1
        clear hK3 hro3 hW23 HW3 HI3 HG3 hrr hV hmz hHeld K1 HV HFC HP0 HP1 HWI HCI hb
        have hcg0 : W3.cell? ⟨gr, 0, none⟩ = some (.int .i64 0) := (blk_cell RR3.out 0).trans rfl
        have hcg1 : W3.cell? ⟨gr, 1, none⟩ = some (.string (⟨#[]⟩ : ByteArray)) := (blk_cell RR3.out 1).trans rfl
        have hfg0 := blk_frozen RR3.out 0
        have hfg1 := blk_frozen RR3.out 1
        generalize moveC y = mc at RV RMZ ⊢
        by_cases hc : mc = 0
        · subst hc
          clear hcg0 hcg1 hfg0 hfg1
          have hsc := RMZ.out rfl
          have hit := itoa_le y.f2 hsc.1 hsc.2
          have hbs := moveB_size y
          have hy := HO.out
          have hdec : impl_decimal.f y.f2 = some ⟨(Lib.itoa y.f2).toArray⟩ := by
            unfold impl_decimal.f strconv_FormatInt_151.f
            rw [if_pos rfl, if_pos (by omega), if_pos (by omega)]
            rfl
          have zt : (⟨(Lib.itoa y.f2).toArray⟩ : ByteArray).size = (Lib.itoa y.f2).length := List.size_toArray
          have hmb : moveB y = (((((y.f0 ++ (⟨#[32, 45, 62, 32]⟩ : ByteArray)) ++ y.f1) ++ (⟨#[32]⟩ : ByteArray)) ++ (⟨(Lib.itoa y.f2).toArray⟩ : ByteArray)) ++ (⟨#[10]⟩ : ByteArray)) := rfl
          generalize (⟨(Lib.itoa y.f2).toArray⟩ : ByteArray) = ts at hdec zt hmb
          rw [← zt] at hit hbs
          clear zt
          have hlen := AL.out
          obtain ⟨hy0, hy1, _, _⟩ := hy
          have f1 : (9223372036854775807 < y.f0.size + 4) = False := eq_false (by omega)
          have f2 : (9223372036854775807 < y.f0.size + 4 + y.f1.size) = False := eq_false (by omega)
          have f3 : (9223372036854775807 < y.f0.size + 4 + y.f1.size + 1) = False := eq_false (by omega)
          have f4 : (9223372036854775807 < y.f0.size + 4 + y.f1.size + 1 + ts.size) = False := eq_false (by omega)
          have f5 : (9223372036854775807 < y.f0.size + 4 + y.f1.size + 1 + ts.size + 1) = False := eq_false (by omega)
          have hs1 : (Lib.byteCells (moveL (l0.take kk))).length + (((((y.f0 ++ (⟨#[32, 45, 62, 32]⟩ : ByteArray)) ++ y.f1) ++ (⟨#[32]⟩ : ByteArray)) ++ ts) ++ (⟨#[10]⟩ : ByteArray)).size ≤ 140737488355328 := by
            rw [← hmb, hbs]
            unfold Lib.byteCells
            rw [List.length_map]
            omega
          have hnl : (moveL (l0.take (kk + 1))).length ≤ (kk + 1) * 3000000 := by
            rw [HT.out, List.length_append]
            have : (moveB y).data.toList.length = (moveB y).size := Array.length_toList
            omega
          have RDEC := Lib.hid hdec
          have RMB := Lib.hid hmb
          have RS1 := Lib.hid hs1
          have RNL := Lib.hid hnl
          have hge3 : ge ≠ gb := by
            intro e
            rcases RI3.out with z | z
            · obtain ⟨_, v, hv, _⟩ := z
              rw [← e, RO3.out] at hv
              injection hv with hv
              injection hv with _ hv _
              exact absurd hv (by decide)
            · obtain ⟨_, v, hv, _⟩ := z
              rw [← e, RO3.out] at hv
              injection hv with hv
              injection hv with _ hv _
              exact absurd hv (by decide)
          clear hdec hmb hs1 hnl hit hbs hsc hlen hy0 hy1
          have hK1 : W3.drew.cell? ⟨ge, 0, none⟩ = some (.string y.f0) ∧ W3.drew.cell? ⟨ge, 1, none⟩ = some (.string y.f1) ∧ W3.drew.cell? ⟨ge, 2, none⟩ = some (.int .i64 y.f2) ∧ W3.drew.heap[ge]? = some (.cells #[.string y.f0, .string y.f1, .int .i64 y.f2] 116 (0, 0)) := s2_of RO3.out
          have RG4 := Lib.hid (show Gt W3.drew from RG3.out.heap rfl)
          have RI4 := Lib.hid (show Lib.IsBuilderF 122 5 w1.heap.size gb (Lib.byteCells (moveL (l0.take kk))) W3.drew from RI3.out.below (below_drew1 (Below.refl _ _)))
          have RW4 := Lib.hid (show Below w1.heap.size w1 W3.drew from RW3.out.drew)
          go_wp2
          go_region_held3 (fun w' => w'.cell? ⟨ge, 0, none⟩ = some (.string y.f0) ∧ w'.cell? ⟨ge, 1, none⟩ = some (.string y.f1) ∧ w'.cell? ⟨ge, 2, none⟩ = some (.int .i64 y.f2) ∧ w'.heap[ge]? = some (.cells #[.string y.f0, .string y.f1, .int .i64 y.f2] 116 (0, 0))) (with_reducible first | assumption | (refine s2_below ?_ hb; assumption) | (refine s2_others ?_ hge3 hok; assumption))
            (first
              | (go_at_call 100; refine (impl_decimal.calls y.f2 _ _ RG4.out RDEC.out).mono ?_; rintro e w' ⟨rfl, hb⟩)
              | (go_at_call 99; refine (writeStringK w1.heap.size gb _ _ _ (RI4.out.below hb) RS1.out (Nat.le_trans RW4.out.size hb.size)).mono ?_; rintro e w'' ⟨rfl, hI, hbw, hok⟩))
          have hI5 : Lib.IsBuilderF 122 5 w1.heap.size gb (Lib.byteCells (moveL (l0.take (kk + 1)))) w'' := by
            rw [HT.out, RMB.out, show Lib.byteCells (moveL (l0.take kk) ++ (((((y.f0 ++ (⟨#[32, 45, 62, 32]⟩ : ByteArray)) ++ y.f1) ++ (⟨#[32]⟩ : ByteArray)) ++ ts) ++ (⟨#[10]⟩ : ByteArray)).data.toList) = Lib.byteCells (moveL (l0.take kk)) ++ Lib.strCells (((((y.f0 ++ (⟨#[32, 45, 62, 32]⟩ : ByteArray)) ++ y.f1) ++ (⟨#[32]⟩ : ByteArray)) ++ ts) ++ (⟨#[10]⟩ : ByteArray)) by rw [Lib.strCells_eq]; exact List.map_append]
            exact .inr hI
          have hB5 : Below w1.heap.size w1 w'' := (RW4.out.trans (hb.mono RW4.out.size)).trans hbw
          have hR5 : movV l0 [] = movV (l0.drop (kk + 1)) (moveL (l0.take (kk + 1))) := by rw [RV.out, if_pos trivial, HT.out]
          have hN5 := RNL.out
          clear hI hbw hok hb hK1 hge3 RS1 RDEC RG4 RI4 RW4 c0 c1 c2 f1 f2 f3 f4 f5
          go_wp2
          go_roundg (l0.length - (kk + 1))
          case measure => omega
          case rel => exact ⟨kk + 1, by omega, by omega, by go_num, hB5, hI5, hR5, hN5⟩
        · have hcb : (mc != 0) = true := bne_iff_ne.mpr hc
          have hcb2 : (mc == 0) = false := beq_eq_false_iff_ne.mpr hc
          go_wp2
          refine bodyPost_ret (results_cell_row rfl _ _ gr 46 #[.int .i64 mc, .string (⟨#[]⟩ : ByteArray)] (0, 0) _ rfl (blk_set (blk_set RR3.out 0 (.int .i64 mc)) 1 (.string (⟨#[]⟩ : ByteArray))) Tryd.underlying46 rfl (by kernel_rfl)) rfl ?_
          rw [RV.out, if_neg hc]
          exact ⟨rfl, below_set (below_set (HB1.out.trans (RW3.out.mono HB1.out.size)) hgw) hgw⟩
      · have : kk = l0.length := by omega
        subst this
        have hltz : ¬ (l0.length : Int) < (l0.length : Int) := by omega
        have e0 : l0.take l0.length = l0 := List.take_length
        have hI := AI.out
        rw [e0] at hI
        have HCA := Lib.hid (stringOfK w1.heap.size gb (moveL l0) wr hI BW.out.size)
        have hV : movV l0 [] = (0, ⟨(moveL l0).toArray⟩) := by
          rw [AR.out, e0, List.drop_length]
          rfl
        have hrr : wr.heap[gr]? = some (.cells #[.int .i64 0, .string (⟨#[]⟩ : ByteArray)] 46 (0, 0)) := (BW.out.block gr hgr1).trans HRB.out
        have RV := Lib.hid hV
        have RR := Lib.hid hrr
        clear hI AI hV hrr AR AL
        go_wp2_with (go_at_call 101; refine HCA.out.mono ?_; rintro e W4 ⟨rfl, hb4⟩; have hr4 : W4.heap[gr]? = some (.cells #[.int .i64 0, .string (⟨#[]⟩ : ByteArray)] 46 (0, 0)) := (hb4.block gr hgr1).trans RR.out; have hcg0 : W4.cell? ⟨gr, 0, none⟩ = some (.int .i64 0) := (blk_cell hr4 0).trans rfl; have hcg1 : W4.cell? ⟨gr, 1, none⟩ = some (.string (⟨#[]⟩ : ByteArray)) := (blk_cell hr4 1).trans rfl; have hfg0 := blk_frozen hr4 0; have hfg1 := blk_frozen hr4 1; have R4 := Lib.hid hr4; have B4 := Lib.hid hb4; clear hr4 hb4)
        refine bodyPost_ret (results_cell_row rfl _ _ gr 46 #[.int .i64 0, .string (⟨(moveL l0).toArray⟩ : ByteArray)] (0, 0) _ rfl (blk_set (blk_set R4.out 0 (.int .i64 0)) 1 (.string (⟨(moveL l0).toArray⟩ : ByteArray))) Tryd.underlying46 rfl (by kernel_rfl)) rfl ?_
        rw [RV.out]
        exact ⟨rfl, below_set (below_set (HB1.out.trans ((BW.out.trans B4.out).mono HB1.out.size)) hgw) hgw⟩
end Go.Proofs.YtcapmfgamdiijaaDoor.PX.X

namespace Go.Proofs.YtcapmfgamdiijaaDoor.PX
open Go.RowKit Go.Proofs.YtcapmfgamdiijaaDoorW.PrintWords Go.Proofs.YtcapmfgamdiijaaDoorW.PrintLast Go.Proofs.YtcapmfgamdiijaaDoorW.PrintMore
attribute [local go_sem] max2_int min2_int max_two min_two max_three min_three max_four min_four   -- for this text's walks alone
set_option linter.unusedVariables false
set_option linter.unusedSimpArgs false

/-! ### impl_MovesText: function 31 -/
def impl_MovesText.ok (l0 : List X.MV) : Bool := decide (l0.length ≤ 1048576) && l0.all fun x => decide (x.f0.size ≤ 1048576) && (decide (x.f1.size ≤ 1048576) && (decide (-9223372036854775808 ≤ x.f2) && decide (x.f2 ≤ 9223372036854775807)))
def impl_MovesText.f (l0 : List X.MV) : Option (Int × ByteArray) := if impl_MovesText.ok l0 = true then some (if l0.length > 60 then (2, (⟨#[]⟩ : ByteArray)) else X.movV l0 []) else none
theorem impl_MovesText.calls (A0 : Option Addr) (c0 : Nat) (l0 : List X.MV) (r1 : Int) (r2 : ByteArray) (w : World) (hr0 : Kd.C k116 w A0 l0.length l0) (hc0 : l0.length ≤ c0) (hG : Gt w) (h : impl_MovesText.f l0 = some (r1, r2)) :
  Calls Tryd.prog 31 #[.slice A0 l0.length c0] w fun e w' => e = .returned (.agg #[.int .i64 r1, .string r2]) ∧ Below w.heap.size w w' := by
 unfold impl_MovesText.f at h
 by_cases hk : impl_MovesText.ok l0 = true
 ·
  rw [if_pos hk] at h
  have h2 := Option.some.inj h
  unfold impl_MovesText.ok at hk
  simp only [Bool.and_eq_true, decide_eq_true_eq, List.all_eq_true] at hk
  have := X.movesText_calls A0 c0 l0 w hr0 hG hk.2 hk.1
  rw [h2] at this
  exact this
 ·
  rw [if_neg hk] at h
  cases h

end Go.Proofs.YtcapmfgamdiijaaDoor.PX

namespace Go.Proofs.YtcapmfgamdiijaaDoor.PX
open Go.RowKit Go.Proofs.YtcapmfgamdiijaaDoorW.PrintWords Go.Proofs.YtcapmfgamdiijaaDoorW.PrintLast Go.Proofs.YtcapmfgamdiijaaDoorW.PrintMore
attribute [local go_sem] max2_int min2_int max_two min_two max_three min_three max_four min_four   -- for this text's walks alone
set_option linter.unusedVariables false
set_option linter.unusedSimpArgs false

/-! ### laws_FnExactMovesText: function 6 -/
def laws_FnExactMovesText.f (k : Nat) (l0 : List (S115)) : Option (Bool) := (laws_szMoveS.f k l0 1048576).bind fun t301 => (if t301 < 0 then (some true) else ((laws_toMoveS.f k l0).bind fun t302 => ((spec_MovesText.f k t302).bind fun bt305 => ((laws_toMoveS.f k l0).bind fun t308 => ((impl_MovesText.f t308).bind fun bt311 => ((laws_eqTextResult.f bt311.1 bt311.2 bt305.1 bt305.2).bind fun t314 => (if t314 = true then ((laws_toMoveS.f k l0).bind fun t315 => ((laws_eqMoveS.f k t308 t315).bind fun t318 => (if t318 = true then (some true) else (some false)))) else (some false))))))))
theorem laws_FnExactMovesText.mono : ∀ a0 k, LeO (laws_FnExactMovesText.f k a0) (laws_FnExactMovesText.f (k + 1) a0) := by
 intro a0 k
 unfold laws_FnExactMovesText.f
 repeat' first
   | (with_reducible exact laws_eqMoveS.mono _ _ _)
   | (with_reducible exact laws_szMoveS.mono _ _ _)
   | (with_reducible exact laws_toMoveS.mono _ _)
   | (with_reducible exact spec_MovesText.mono _ _)
   | (with_reducible exact LeO.refl _)
   | (with_reducible exact LeO.none _)
   | (with_reducible refine LeO.ite ?_ ?_)
   | (with_reducible refine LeO.bind ?_ (fun _ => ?_))
   | exact laws_eqMoveS.mono _ _ _
   | exact laws_szMoveS.mono _ _ _
   | exact laws_toMoveS.mono _ _
   | exact spec_MovesText.mono _ _
   | exact LeO.none _
   | refine LeO.ite ?_ ?_
   | refine LeO.bind ?_ (fun _ => ?_)
set_option maxHeartbeats 8000000 in
set_option maxRecDepth 100000 in
theorem laws_FnExactMovesText.calls (k : Nat) (A0 : Option Addr) (c0 : Nat) (l0 : List (S115)) (r : Bool) (w : World) (hr0 : Kd.C k115 w A0 l0.length l0) (hc0 : l0.length ≤ c0) (hG : Gt w) (h : laws_FnExactMovesText.f k l0 = some r) :
  Calls Tryd.prog 6 #[.slice A0 l0.length c0] w fun e w' => e = .returned (.bool r) ∧ Below w.heap.size w w' := by
 have HG := Aside0.mk hG
 clear hG
 have hu46 := Tryd.underlying46
 have HR0 := Aside0.mk hr0
 have HC0 := Aside0.mk hc0
 clear hr0 hc0
 have HB := Aside0.mk (Below.refl w.heap.size w)
 have H : ((laws_szMoveS.f k l0 1048576).bind fun t301 => (if t301 < 0 then (some true) else ((laws_toMoveS.f k l0).bind fun t302 => ((spec_MovesText.f k t302).bind fun bt305 => ((laws_toMoveS.f k l0).bind fun t308 => ((impl_MovesText.f t308).bind fun bt311 => ((laws_eqTextResult.f bt311.1 bt311.2 bt305.1 bt305.2).bind fun t314 => (if t314 = true then ((laws_toMoveS.f k l0).bind fun t315 => ((laws_eqMoveS.f k t308 t315).bind fun t318 => (if t318 = true then (some true) else (some false)))) else (some false))))))))) = some r := h
 clear h
 replace H := Option.bind_eq_some_iff.mp H
 obtain ⟨t301, A20, H⟩ := H
 replace H : (if t301 < 0 then (some true) else ((laws_toMoveS.f k l0).bind fun t302 => ((spec_MovesText.f k t302).bind fun bt305 => ((laws_toMoveS.f k l0).bind fun t308 => ((impl_MovesText.f t308).bind fun bt311 => ((laws_eqTextResult.f bt311.1 bt311.2 bt305.1 bt305.2).bind fun t314 => (if t314 = true then ((laws_toMoveS.f k l0).bind fun t315 => ((laws_eqMoveS.f k t308 t315).bind fun t318 => (if t318 = true then (some true) else (some false)))) else (some false)))))))) = some r := H
 have A2 := Aside0.mk A20
 clear A20
 by_cases c3 : t301 < 0
 ·
  rw [if_pos c3] at H
  have c3b0 : decide (t301 < 0) = true := decide_eq_true c3
  clear c3
  obtain rfl := Option.some.inj H
  go_enter Tryd.func6, Tryd.ntmps6
  go_wp2_with (first | ((with_reducible refine gate_callee (f := 28) rfl ?_); refine goesL_ (some 9) rfl rfl Tryd.func28 (by kernel_rfl) rfl #[.slice A0 l0.length c0, .int .i64 1048576] rfl (by (try simp only [List.map_toArray, List.map_cons, List.map_nil]); first | done | rfl | (simp only [List.length_drop, List.length_take]; rfl)) ?_; (with_reducible refine (laws_szMoveS.calls k _ _ l0 1048576 t301 _ ?side1 ?side2 A2.out).mono ?_); (case side1 => repeat (first | exact HR0.out | (with_reducible refine Kd.C_alloc ?_ _) | (with_reducible refine Kd.C_drewN ?_ _) | (with_reducible refine Kd.C_drew ?_))); (case side2 => exact HC0.out); rintro e w4 ⟨rfl, hb⟩; refine ⟨_, rfl, ?_⟩; have n0_ := Aside0.mk (below_step (by repeat (first | (with_reducible first | exact HB.out | apply below_alloc | apply pw_below_drewN | apply below_drew1) | exact HB.out)) hb); clear HB; have HB := n0_; clear n0_; (try clear hb); (try clear hb2); (try clear hk); (try clear hi)))
  go_ret
  exact ⟨by first | rfl | (simp [errW_none, errW_some] <;> rfl) | (simp [*, errW_none, errW_some] <;> rfl), by repeat (first | (with_reducible first | exact HB.out | apply below_alloc | apply pw_below_drewN | apply below_drew1) | exact HB.out)⟩
 ·
  rw [if_neg c3] at H
  have c3b0 : decide (t301 < 0) = false := decide_eq_false c3
  clear c3
  replace H := Option.bind_eq_some_iff.mp H
  obtain ⟨t302, A50, H⟩ := H
  replace H : ((spec_MovesText.f k t302).bind fun bt305 => ((laws_toMoveS.f k l0).bind fun t308 => ((impl_MovesText.f t308).bind fun bt311 => ((laws_eqTextResult.f bt311.1 bt311.2 bt305.1 bt305.2).bind fun t314 => (if t314 = true then ((laws_toMoveS.f k l0).bind fun t315 => ((laws_eqMoveS.f k t308 t315).bind fun t318 => (if t318 = true then (some true) else (some false)))) else (some false)))))) = some r := H
  have A5 := Aside0.mk A50
  clear A50
  replace H := Option.bind_eq_some_iff.mp H
  obtain ⟨⟨t305, t306⟩, A60, H⟩ := H
  replace H : ((laws_toMoveS.f k l0).bind fun t308 => ((impl_MovesText.f t308).bind fun bt311 => ((laws_eqTextResult.f bt311.1 bt311.2 t305 t306).bind fun t314 => (if t314 = true then ((laws_toMoveS.f k l0).bind fun t315 => ((laws_eqMoveS.f k t308 t315).bind fun t318 => (if t318 = true then (some true) else (some false)))) else (some false))))) = some r := H
  have A6 := Aside0.mk A60
  clear A60
  replace H := Option.bind_eq_some_iff.mp H
  obtain ⟨t308, A70, H⟩ := H
  replace H : ((impl_MovesText.f t308).bind fun bt311 => ((laws_eqTextResult.f bt311.1 bt311.2 t305 t306).bind fun t314 => (if t314 = true then ((laws_toMoveS.f k l0).bind fun t315 => ((laws_eqMoveS.f k t308 t315).bind fun t318 => (if t318 = true then (some true) else (some false)))) else (some false)))) = some r := H
  have A7 := Aside0.mk A70
  clear A70
  replace H := Option.bind_eq_some_iff.mp H
  obtain ⟨⟨t311, t312⟩, A80, H⟩ := H
  replace H : ((laws_eqTextResult.f t311 t312 t305 t306).bind fun t314 => (if t314 = true then ((laws_toMoveS.f k l0).bind fun t315 => ((laws_eqMoveS.f k t308 t315).bind fun t318 => (if t318 = true then (some true) else (some false)))) else (some false))) = some r := H
  have A8 := Aside0.mk A80
  clear A80
  replace H := Option.bind_eq_some_iff.mp H
  obtain ⟨t314, A90, H⟩ := H
  replace H : (if t314 = true then ((laws_toMoveS.f k l0).bind fun t315 => ((laws_eqMoveS.f k t308 t315).bind fun t318 => (if t318 = true then (some true) else (some false)))) else (some false)) = some r := H
  have A9 := Aside0.mk A90
  clear A90
  by_cases c10 : t314 = true
  ·
   subst c10
   have H1 : ((laws_toMoveS.f k l0).bind fun t315 => ((laws_eqMoveS.f k t308 t315).bind fun t318 => (if t318 = true then (some true) else (some false)))) = some r := by rw [if_pos rfl] at H; exact H
   clear H
   have H := H1
   clear H1
   replace H := Option.bind_eq_some_iff.mp H
   obtain ⟨t315, A110, H⟩ := H
   replace H : ((laws_eqMoveS.f k t308 t315).bind fun t318 => (if t318 = true then (some true) else (some false))) = some r := H
   have A11 := Aside0.mk A110
   clear A110
   replace H := Option.bind_eq_some_iff.mp H
   obtain ⟨t318, A120, H⟩ := H
   replace H : (if t318 = true then (some true) else (some false)) = some r := H
   have A12 := Aside0.mk A120
   clear A120
   by_cases c13 : t318 = true
   ·
    subst c13
    have H1 : (some true) = some r := by rw [if_pos rfl] at H; exact H
    clear H
    have H := H1
    clear H1
    obtain rfl := Option.some.inj H
    go_enter Tryd.func6, Tryd.ntmps6
    go_wp2_with (first | ((with_reducible refine gate_callee (f := 28) rfl ?_); refine goesL_ (some 9) rfl rfl Tryd.func28 (by kernel_rfl) rfl #[.slice A0 l0.length c0, .int .i64 1048576] rfl (by (try simp only [List.map_toArray, List.map_cons, List.map_nil]); first | done | rfl | (simp only [List.length_drop, List.length_take]; rfl)) ?_; (with_reducible refine (laws_szMoveS.calls k _ _ l0 1048576 t301 _ ?side1 ?side2 A2.out).mono ?_); (case side1 => repeat (first | exact HR0.out | (with_reducible refine Kd.C_alloc ?_ _) | (with_reducible refine Kd.C_drewN ?_ _) | (with_reducible refine Kd.C_drew ?_))); (case side2 => exact HC0.out); rintro e w14 ⟨rfl, hb⟩; refine ⟨_, rfl, ?_⟩; have n0_ := Aside0.mk (below_step (by repeat (first | (with_reducible first | exact HB.out | apply below_alloc | apply pw_below_drewN | apply below_drew1) | exact HB.out)) hb); clear HB; have HB := n0_; clear n0_; (try clear hb); (try clear hb2); (try clear hk); (try clear hi)) | ((with_reducible refine gate_callee (f := 30) rfl ?_); refine goesL_ (some 13) rfl rfl Tryd.func30 (by kernel_rfl) rfl #[.slice A0 l0.length c0] rfl (by (try simp only [List.map_toArray, List.map_cons, List.map_nil]); first | done | rfl | (simp only [List.length_drop, List.length_take]; rfl)) ?_; (with_reducible refine (laws_toMoveS.calls k _ _ l0 t302 _ ?side1 ?side2 A5.out).mono ?_); (case side1 => repeat (first | exact (Kd.C_below HR0.out HB.out) | (with_reducible refine Kd.C_alloc ?_ _) | (with_reducible refine Kd.C_drewN ?_ _) | (with_reducible refine Kd.C_drew ?_))); (case side2 => exact HC0.out); rintro e w15 ⟨v303, rfl, ho0, hb⟩; refine ⟨_, rfl, ?_⟩; have n0_ := Aside0.mk (Kd.R_lower ho0 (below_size (by repeat (first | (with_reducible first | exact HB.out | apply below_alloc | apply pw_below_drewN | apply below_drew1) | exact HB.out)))); have n1_ := Aside0.mk (below_step (by repeat (first | (with_reducible first | exact HB.out | apply below_alloc | apply pw_below_drewN | apply below_drew1) | exact HB.out)) hb); clear HB; have HO304 := n0_; have HB := n1_; clear n0_ n1_; (try clear hb); (try clear hb2); (try clear hk); (try clear hi); (try clear ho0); obtain ⟨Ao16, co16, eo16⟩ := Kd.R_slice HO304.out; subst eo16) | ((with_reducible refine gate_callee (f := 29) rfl ?_); refine goesL_ (some 14) rfl rfl Tryd.func29 (by kernel_rfl) rfl #[.slice Ao16 t302.length co16] rfl (by (try simp only [List.map_toArray, List.map_cons, List.map_nil]); first | done | rfl | (simp only [List.length_drop, List.length_take]; rfl)) ?_; (with_reducible refine (spec_MovesText.calls k _ _ t302 t305 t306 _ ?side1 ?side2 A6.out).mono ?_); (case side1 => repeat (first | exact (Kd.R_reads' HO304.out).2.2 | (with_reducible refine Kd.C_alloc ?_ _) | (with_reducible refine Kd.C_drewN ?_ _) | (with_reducible refine Kd.C_drew ?_))); (case side2 => exact (Kd.R_reads' HO304.out).2.1); rintro e w17 ⟨rfl, hb⟩; refine ⟨_, rfl, ?_⟩; have n0_ := Aside0.mk (Kd.R_below (by (with_reducible repeat (first | apply Kd.R_alloc | apply Kd.R_drewN | apply Kd.R_drew)); exact HO304.out) hb); have n1_ := Aside0.mk (below_step (by repeat (first | (with_reducible first | exact HB.out | apply below_alloc | apply pw_below_drewN | apply below_drew1) | exact HB.out)) hb); clear HO304; clear HB; have HO304 := n0_; have HB := n1_; clear n0_ n1_; (try clear hb); (try clear hb2); (try clear hk); (try clear hi)) | ((with_reducible refine gate_dst (N := 4) rfl ?_); refine box_event ?hg (N := 4) ?hd (cs := #[.int .i64 0, .string (⟨#[]⟩ : ByteArray)]) (t := 46) ?hr ?_; (case hd => rfl); (case hg => rfl); (case hr => first | (go_simp; done) | (go_simp; rfl)); intro gb307 hg w18 hbox hb; have n0_ := Aside0.mk (Kd.R_below (by (with_reducible repeat (first | apply Kd.R_alloc | apply Kd.R_drewN | apply Kd.R_drew)); exact HO304.out) hb); have n1_ := Aside0.mk (below_step (by repeat (first | (with_reducible first | exact HB.out | apply below_alloc | apply pw_below_drewN | apply below_drew1) | exact HB.out)) hb); have n2_ := Aside0.mk (hbox); have n3_ := Aside0.mk ((by rw [hg]; exact (below_size (by repeat (first | (with_reducible first | exact HB.out | apply below_alloc | apply pw_below_drewN | apply below_drew1) | exact HB.out))) : w.heap.size ≤ gb307)); have n4_ := Aside0.mk ((by rw [hg]; exact (below_size (by repeat (first | (with_reducible first | exact HB.out | apply below_alloc | apply pw_below_drewN | apply below_drew1) | exact HB.out))) : w.heap.size ≤ gb307)); clear HO304; clear HB; have HO304 := n0_; have HB := n1_; have BK307 := n2_; have GW307 := n3_; have GE307 := n4_; clear n0_ n1_ n2_ n3_ n4_; clear hb hbox hg; have hcz19_0 : w18.cell? ⟨gb307, 0, none⟩ = some (.int .i64 0) := (blk_cell BK307.out 0).trans rfl; have hcz19_1 : w18.cell? ⟨gb307, 1, none⟩ = some (.string (⟨#[]⟩ : ByteArray)) := (blk_cell BK307.out 1).trans rfl; have hfz19_0 := blk_frozen BK307.out 0; have hfz19_1 := blk_frozen BK307.out 1) | ((with_reducible refine gate_callee (f := 30) rfl ?_); refine goesL_ (some 16) rfl rfl Tryd.func30 (by kernel_rfl) rfl #[.slice A0 l0.length c0] rfl (by (try simp only [List.map_toArray, List.map_cons, List.map_nil]); first | done | rfl | (simp only [List.length_drop, List.length_take]; rfl)) ?_; (with_reducible refine (laws_toMoveS.calls k _ _ l0 t308 _ ?side1 ?side2 A7.out).mono ?_); (case side1 => exact Kd.C_below HR0.out (by repeat (first | (with_reducible first | exact HB.out | apply below_alloc | apply pw_below_drewN | apply below_drew1 | refine below_set ?_ GE307.out) | exact HB.out))); (case side2 => exact HC0.out); rintro e w20 ⟨v309, rfl, ho0, hb⟩; refine ⟨_, rfl, ?_⟩; have n0_ := Aside0.mk (Kd.R_elder' (by (with_reducible repeat (first | apply Kd.R_alloc | apply Kd.R_drewN | apply Kd.R_drew)); exact (Kd.R_mono (Kd.R_far (p := ⟨gb307, 1, none⟩) (Kd.R_far (p := ⟨gb307, 0, none⟩) (Kd.R_types HO304.out BK307.out (by decide)) (fun _ hk => hk.2) (.int .i64 t305)) (fun _ hk => hk.2) (.string t306)) (fun _ h_ => h_.1))) (Kd.R_base ho0) hb); have n1_ := Aside0.mk (Kd.R_lower (Kd.R_new' ho0 (Kd.R_lt (by (with_reducible repeat (first | apply Kd.R_alloc | apply Kd.R_drewN | apply Kd.R_drew)); exact (Kd.R_mono (Kd.R_far (p := ⟨gb307, 1, none⟩) (Kd.R_far (p := ⟨gb307, 0, none⟩) (Kd.R_types HO304.out BK307.out (by decide)) (fun _ hk => hk.2) (.int .i64 t305)) (fun _ hk => hk.2) (.string t306)) (fun _ h_ => h_.1))))) (below_size (by repeat (first | (with_reducible first | exact HB.out | apply below_alloc | apply pw_below_drewN | apply below_drew1 | refine below_set ?_ GE307.out) | exact HB.out)))); have n2_ := Aside0.mk (blk_below (g := gb307) (o := .cells #[.int .i64 t305, .string t306] 46 (0, 0)) (by (with_reducible repeat (first | refine blk_drewN ?_ _ | refine blk_drew ?_ | refine blk_alloc ?_ _)); refine blk_put (cs := #[.int .i64 t305, .string (⟨#[]⟩ : ByteArray)]) ?_ 1 _ rfl; (with_reducible repeat (first | refine blk_drewN ?_ _ | refine blk_drew ?_ | refine blk_alloc ?_ _)); refine blk_put (cs := #[.int .i64 0, .string (⟨#[]⟩ : ByteArray)]) ?_ 0 _ rfl; (with_reducible repeat (first | refine blk_drewN ?_ _ | refine blk_drew ?_ | refine blk_alloc ?_ _)); exact BK307.out) hb); have n3_ := Aside0.mk (below_step (by repeat (first | (with_reducible first | exact HB.out | apply below_alloc | apply pw_below_drewN | apply below_drew1 | refine below_set ?_ GE307.out) | exact HB.out)) hb); clear HO304; clear BK307; clear HB; have HO304 := n0_; have HO310 := n1_; have BK307 := n2_; have HB := n3_; clear n0_ n1_ n2_ n3_; (try clear hb); (try clear hb2); (try clear hk); (try clear hi); (try clear ho0); obtain ⟨Ao21, co21, eo21⟩ := Kd.R_slice HO310.out; subst eo21) | ((with_reducible refine gate_callee (f := 31) rfl ?_); refine goesL_ (some 18) rfl rfl Tryd.func31 (by kernel_rfl) rfl #[.slice Ao21 t308.length co21] rfl (by (try simp only [List.map_toArray, List.map_cons, List.map_nil]); first | done | rfl | (simp only [List.length_drop, List.length_take]; rfl)) ?_; (with_reducible refine (impl_MovesText.calls _ _ t308 t311 t312 _ ?side1 ?side2 (Gt.below HG.out (by repeat (first | (with_reducible first | exact HB.out | apply below_alloc | apply pw_below_drewN | apply below_drew1 | refine below_set ?_ GE307.out) | exact HB.out))) A8.out).mono ?_); (case side1 => repeat (first | exact (Kd.R_reads' HO310.out).2.2 | (with_reducible refine Kd.C_alloc ?_ _) | (with_reducible refine Kd.C_drewN ?_ _) | (with_reducible refine Kd.C_drew ?_))); (case side2 => exact (Kd.R_reads' HO310.out).2.1); rintro e w22 ⟨rfl, hb⟩; refine ⟨_, rfl, ?_⟩; have n0_ := Aside0.mk (Kd.R_below (by (with_reducible repeat (first | apply Kd.R_alloc | apply Kd.R_drewN | apply Kd.R_drew)); exact HO304.out) hb); have n1_ := Aside0.mk (Kd.R_below (by (with_reducible repeat (first | apply Kd.R_alloc | apply Kd.R_drewN | apply Kd.R_drew)); exact HO310.out) hb); have n2_ := Aside0.mk (blk_below (g := gb307) (o := .cells #[.int .i64 t305, .string t306] 46 (0, 0)) (by (with_reducible repeat (first | refine blk_drewN ?_ _ | refine blk_drew ?_ | refine blk_alloc ?_ _)); exact BK307.out) hb); have n3_ := Aside0.mk (below_step (by repeat (first | (with_reducible first | exact HB.out | apply below_alloc | apply pw_below_drewN | apply below_drew1 | refine below_set ?_ GE307.out) | exact HB.out)) hb); clear HO304; clear HO310; clear BK307; clear HB; have HO304 := n0_; have HO310 := n1_; have BK307 := n2_; have HB := n3_; clear n0_ n1_ n2_ n3_; (try clear hb); (try clear hb2); (try clear hk); (try clear hi)) | ((with_reducible refine gate_dst (N := 6) rfl ?_); refine box_event ?hg (N := 6) ?hd (cs := #[.int .i64 0, .string (⟨#[]⟩ : ByteArray)]) (t := 46) ?hr ?_; (case hd => rfl); (case hg => rfl); (case hr => first | (go_simp; done) | (go_simp; rfl)); intro gb313 hg w23 hbox hb; have n0_ := Aside0.mk (Kd.R_below (by (with_reducible repeat (first | apply Kd.R_alloc | apply Kd.R_drewN | apply Kd.R_drew)); exact HO304.out) hb); have n1_ := Aside0.mk (Kd.R_below (by (with_reducible repeat (first | apply Kd.R_alloc | apply Kd.R_drewN | apply Kd.R_drew)); exact HO310.out) hb); have n2_ := Aside0.mk (blk_below (g := gb307) (o := .cells #[.int .i64 t305, .string t306] 46 (0, 0)) (by (with_reducible repeat (first | refine blk_drewN ?_ _ | refine blk_drew ?_ | refine blk_alloc ?_ _)); exact BK307.out) hb); have n3_ := Aside0.mk (below_step (by repeat (first | (with_reducible first | exact HB.out | apply below_alloc | apply pw_below_drewN | apply below_drew1 | refine below_set ?_ GE307.out) | exact HB.out)) hb); have n4_ := Aside0.mk (hbox); have n5_ := Aside0.mk ((by rw [hg]; exact (below_size (by repeat (first | (with_reducible first | exact HB.out | apply below_alloc | apply pw_below_drewN | apply below_drew1 | refine below_set ?_ GE307.out) | exact HB.out))) : w.heap.size ≤ gb313)); have n6_ := Aside0.mk ((by rw [hg]; exact (below_size (by repeat (first | (with_reducible first | exact HB.out | apply below_alloc | apply pw_below_drewN | apply below_drew1 | refine below_set ?_ GE307.out) | exact HB.out))) : w.heap.size ≤ gb313)); have n7_ := Aside0.mk ((by rw [hg]; exact Nat.ne_of_lt (blk_lt (g := gb307) (o := .cells #[.int .i64 t305, .string t306] 46 (0, 0)) (by (with_reducible repeat (first | refine blk_drewN ?_ _ | refine blk_drew ?_ | refine blk_alloc ?_ _)); exact BK307.out)) : gb307 ≠ gb313)); have n8_ := Aside0.mk ((by rw [hg]; exact Nat.ne_of_gt (blk_lt (g := gb307) (o := .cells #[.int .i64 t305, .string t306] 46 (0, 0)) (by (with_reducible repeat (first | refine blk_drewN ?_ _ | refine blk_drew ?_ | refine blk_alloc ?_ _)); exact BK307.out)) : gb313 ≠ gb307)); clear HO304; clear HO310; clear BK307; clear HB; have HO304 := n0_; have HO310 := n1_; have BK307 := n2_; have HB := n3_; have BK313 := n4_; have GW313 := n5_; have GE313 := n6_; have NB307_313 := n7_; have NB313_307 := n8_; clear n0_ n1_ n2_ n3_ n4_ n5_ n6_ n7_ n8_; clear hb hbox hg; have hnb24 := NB313_307.out; have hnc24 := NB307_313.out; have hcz25_0 : w23.cell? ⟨gb313, 0, none⟩ = some (.int .i64 0) := (blk_cell BK313.out 0).trans rfl; have hcz25_1 : w23.cell? ⟨gb313, 1, none⟩ = some (.string (⟨#[]⟩ : ByteArray)) := (blk_cell BK313.out 1).trans rfl; have hfz25_0 := blk_frozen BK313.out 0; have hfz25_1 := blk_frozen BK313.out 1; have hcz26_0 : w23.cell? ⟨gb307, 0, none⟩ = some (.int .i64 t305) := (blk_cell BK307.out 0).trans rfl; have hcz26_1 : w23.cell? ⟨gb307, 1, none⟩ = some (.string t306) := (blk_cell BK307.out 1).trans rfl; have hfz26_0 := blk_frozen BK307.out 0; have hfz26_1 := blk_frozen BK307.out 1) | ((with_reducible refine gate_callee (f := 32) rfl ?_); refine goesL_ (some 21) rfl rfl Tryd.func32 (by kernel_rfl) rfl #[.agg #[.int .i64 t311, .string t312], .agg #[.int .i64 t305, .string t306]] rfl (by (try simp only [List.map_toArray, List.map_cons, List.map_nil]); first | done | rfl | (simp only [List.length_drop, List.length_take]; rfl)) ?_; (with_reducible refine (laws_eqTextResult.calls t311 t312 t305 t306 true _ A9.out).mono ?_); rintro e w27 ⟨rfl, hb⟩; refine ⟨_, rfl, ?_⟩; have n0_ := Aside0.mk (Kd.R_below (by (with_reducible repeat (first | apply Kd.R_alloc | apply Kd.R_drewN | apply Kd.R_drew)); exact (Kd.R_mono (Kd.R_far (p := ⟨gb313, 1, none⟩) (Kd.R_far (p := ⟨gb313, 0, none⟩) (Kd.R_types HO304.out BK313.out (by decide)) (fun _ hk => hk.2) (.int .i64 t311)) (fun _ hk => hk.2) (.string t312)) (fun _ h_ => h_.1))) hb); have n1_ := Aside0.mk (Kd.R_below (by (with_reducible repeat (first | apply Kd.R_alloc | apply Kd.R_drewN | apply Kd.R_drew)); exact (Kd.R_mono (Kd.R_far (p := ⟨gb313, 1, none⟩) (Kd.R_far (p := ⟨gb313, 0, none⟩) (Kd.R_types HO310.out BK313.out (by decide)) (fun _ hk => hk.2) (.int .i64 t311)) (fun _ hk => hk.2) (.string t312)) (fun _ h_ => h_.1))) hb); have n2_ := Aside0.mk (blk_below (g := gb307) (o := .cells #[.int .i64 t305, .string t306] 46 (0, 0)) (by (with_reducible repeat (first | refine blk_drewN ?_ _ | refine blk_drew ?_ | refine blk_alloc ?_ _)); refine blk_far ?_ NB307_313.out _; (with_reducible repeat (first | refine blk_drewN ?_ _ | refine blk_drew ?_ | refine blk_alloc ?_ _)); refine blk_far ?_ NB307_313.out _; (with_reducible repeat (first | refine blk_drewN ?_ _ | refine blk_drew ?_ | refine blk_alloc ?_ _)); exact BK307.out) hb); have n3_ := Aside0.mk (blk_below (g := gb313) (o := .cells #[.int .i64 t311, .string t312] 46 (0, 0)) (by (with_reducible repeat (first | refine blk_drewN ?_ _ | refine blk_drew ?_ | refine blk_alloc ?_ _)); refine blk_put (cs := #[.int .i64 t311, .string (⟨#[]⟩ : ByteArray)]) ?_ 1 _ rfl; (with_reducible repeat (first | refine blk_drewN ?_ _ | refine blk_drew ?_ | refine blk_alloc ?_ _)); refine blk_put (cs := #[.int .i64 0, .string (⟨#[]⟩ : ByteArray)]) ?_ 0 _ rfl; (with_reducible repeat (first | refine blk_drewN ?_ _ | refine blk_drew ?_ | refine blk_alloc ?_ _)); exact BK313.out) hb); have n4_ := Aside0.mk (below_step (by repeat (first | (with_reducible first | exact HB.out | apply below_alloc | apply pw_below_drewN | apply below_drew1 | refine below_set ?_ GE307.out | refine below_set ?_ GE313.out) | exact HB.out)) hb); clear HO304; clear HO310; clear BK307; clear BK313; clear HB; have HO304 := n0_; have HO310 := n1_; have BK307 := n2_; have BK313 := n3_; have HB := n4_; clear n0_ n1_ n2_ n3_ n4_; (try clear hb); (try clear hb2); (try clear hk); (try clear hi)) | ((with_reducible refine gate_callee (f := 30) rfl ?_); refine goesL_ (some 25) rfl rfl Tryd.func30 (by kernel_rfl) rfl #[.slice A0 l0.length c0] rfl (by (try simp only [List.map_toArray, List.map_cons, List.map_nil]); first | done | rfl | (simp only [List.length_drop, List.length_take]; rfl)) ?_; (with_reducible refine (laws_toMoveS.calls k _ _ l0 t315 _ ?side1 ?side2 A11.out).mono ?_); (case side1 => repeat (first | exact (Kd.C_below HR0.out HB.out) | (with_reducible refine Kd.C_alloc ?_ _) | (with_reducible refine Kd.C_drewN ?_ _) | (with_reducible refine Kd.C_drew ?_))); (case side2 => exact HC0.out); rintro e w28 ⟨v316, rfl, ho0, hb⟩; refine ⟨_, rfl, ?_⟩; have n0_ := Aside0.mk (Kd.R_elder' (by (with_reducible repeat (first | apply Kd.R_alloc | apply Kd.R_drewN | apply Kd.R_drew)); exact HO304.out) (Kd.R_base ho0) hb); have n1_ := Aside0.mk (Kd.R_elder' (by (with_reducible repeat (first | apply Kd.R_alloc | apply Kd.R_drewN | apply Kd.R_drew)); exact HO310.out) (Kd.R_base ho0) hb); have n2_ := Aside0.mk (Kd.R_lower (Kd.R_new' (Kd.R_new' ho0 (Kd.R_lt (by (with_reducible repeat (first | apply Kd.R_alloc | apply Kd.R_drewN | apply Kd.R_drew)); exact HO304.out))) (Kd.R_lt (by (with_reducible repeat (first | apply Kd.R_alloc | apply Kd.R_drewN | apply Kd.R_drew)); exact HO310.out))) (below_size (by repeat (first | (with_reducible first | exact HB.out | apply below_alloc | apply pw_below_drewN | apply below_drew1 | refine below_set ?_ GE307.out | refine below_set ?_ GE313.out) | exact HB.out)))); have n3_ := Aside0.mk (blk_below (g := gb307) (o := .cells #[.int .i64 t305, .string t306] 46 (0, 0)) (by (with_reducible repeat (first | refine blk_drewN ?_ _ | refine blk_drew ?_ | refine blk_alloc ?_ _)); exact BK307.out) hb); have n4_ := Aside0.mk (blk_below (g := gb313) (o := .cells #[.int .i64 t311, .string t312] 46 (0, 0)) (by (with_reducible repeat (first | refine blk_drewN ?_ _ | refine blk_drew ?_ | refine blk_alloc ?_ _)); exact BK313.out) hb); have n5_ := Aside0.mk (below_step (by repeat (first | (with_reducible first | exact HB.out | apply below_alloc | apply pw_below_drewN | apply below_drew1 | refine below_set ?_ GE307.out | refine below_set ?_ GE313.out) | exact HB.out)) hb); clear HO304; clear HO310; clear BK307; clear BK313; clear HB; have HO304 := n0_; have HO310 := n1_; have HO317 := n2_; have BK307 := n3_; have BK313 := n4_; have HB := n5_; clear n0_ n1_ n2_ n3_ n4_ n5_; (try clear hb); (try clear hb2); (try clear hk); (try clear hi); (try clear ho0); obtain ⟨Ao29, co29, eo29⟩ := Kd.R_slice HO317.out; subst eo29) | ((with_reducible refine gate_callee (f := 33) rfl ?_); refine goesL_ (some 26) rfl rfl Tryd.func33 (by kernel_rfl) rfl #[.slice Ao21 t308.length co21, .slice Ao29 t315.length co29] rfl (by (try simp only [List.map_toArray, List.map_cons, List.map_nil]); first | done | rfl | (simp only [List.length_drop, List.length_take]; rfl)) ?_; (with_reducible refine (laws_eqMoveS.calls k _ _ t308 _ _ t315 true _ ?side1 ?side2 ?side3 ?side4 A12.out).mono ?_); (case side1 => repeat (first | exact (Kd.R_reads' HO310.out).2.2 | (with_reducible refine Kd.C_alloc ?_ _) | (with_reducible refine Kd.C_drewN ?_ _) | (with_reducible refine Kd.C_drew ?_))); (case side2 => exact (Kd.R_reads' HO310.out).2.1); (case side3 => repeat (first | exact (Kd.R_reads' HO317.out).2.2 | (with_reducible refine Kd.C_alloc ?_ _) | (with_reducible refine Kd.C_drewN ?_ _) | (with_reducible refine Kd.C_drew ?_))); (case side4 => exact (Kd.R_reads' HO317.out).2.1); rintro e w30 ⟨rfl, hb⟩; refine ⟨_, rfl, ?_⟩; have n0_ := Aside0.mk (Kd.R_below (by (with_reducible repeat (first | apply Kd.R_alloc | apply Kd.R_drewN | apply Kd.R_drew)); exact HO304.out) hb); have n1_ := Aside0.mk (Kd.R_below (by (with_reducible repeat (first | apply Kd.R_alloc | apply Kd.R_drewN | apply Kd.R_drew)); exact HO310.out) hb); have n2_ := Aside0.mk (Kd.R_below (by (with_reducible repeat (first | apply Kd.R_alloc | apply Kd.R_drewN | apply Kd.R_drew)); exact HO317.out) hb); have n3_ := Aside0.mk (blk_below (g := gb307) (o := .cells #[.int .i64 t305, .string t306] 46 (0, 0)) (by (with_reducible repeat (first | refine blk_drewN ?_ _ | refine blk_drew ?_ | refine blk_alloc ?_ _)); exact BK307.out) hb); have n4_ := Aside0.mk (blk_below (g := gb313) (o := .cells #[.int .i64 t311, .string t312] 46 (0, 0)) (by (with_reducible repeat (first | refine blk_drewN ?_ _ | refine blk_drew ?_ | refine blk_alloc ?_ _)); exact BK313.out) hb); have n5_ := Aside0.mk (below_step (by repeat (first | (with_reducible first | exact HB.out | apply below_alloc | apply pw_below_drewN | apply below_drew1 | refine below_set ?_ GE307.out | refine below_set ?_ GE313.out) | exact HB.out)) hb); clear HO304; clear HO310; clear HO317; clear BK307; clear BK313; clear HB; have HO304 := n0_; have HO310 := n1_; have HO317 := n2_; have BK307 := n3_; have BK313 := n4_; have HB := n5_; clear n0_ n1_ n2_ n3_ n4_ n5_; (try clear hb); (try clear hb2); (try clear hk); (try clear hi)))
    go_ret
    exact ⟨by first | rfl | (simp [errW_none, errW_some] <;> rfl) | (simp [*, errW_none, errW_some] <;> rfl), by repeat (first | (with_reducible first | exact HB.out | apply below_alloc | apply pw_below_drewN | apply below_drew1 | refine below_set ?_ GE307.out | refine below_set ?_ GE313.out) | exact HB.out)⟩
   ·
    replace c13 := Bool.eq_false_iff.mpr c13
    subst c13
    have H1 : (some false) = some r := by rw [if_neg (show ¬ (false = true) by decide)] at H; exact H
    clear H
    have H := H1
    clear H1
    obtain rfl := Option.some.inj H
    go_enter Tryd.func6, Tryd.ntmps6
    go_wp2_with (first | ((with_reducible refine gate_callee (f := 28) rfl ?_); refine goesL_ (some 9) rfl rfl Tryd.func28 (by kernel_rfl) rfl #[.slice A0 l0.length c0, .int .i64 1048576] rfl (by (try simp only [List.map_toArray, List.map_cons, List.map_nil]); first | done | rfl | (simp only [List.length_drop, List.length_take]; rfl)) ?_; (with_reducible refine (laws_szMoveS.calls k _ _ l0 1048576 t301 _ ?side1 ?side2 A2.out).mono ?_); (case side1 => repeat (first | exact HR0.out | (with_reducible refine Kd.C_alloc ?_ _) | (with_reducible refine Kd.C_drewN ?_ _) | (with_reducible refine Kd.C_drew ?_))); (case side2 => exact HC0.out); rintro e w31 ⟨rfl, hb⟩; refine ⟨_, rfl, ?_⟩; have n0_ := Aside0.mk (below_step (by repeat (first | (with_reducible first | exact HB.out | apply below_alloc | apply pw_below_drewN | apply below_drew1) | exact HB.out)) hb); clear HB; have HB := n0_; clear n0_; (try clear hb); (try clear hb2); (try clear hk); (try clear hi)) | ((with_reducible refine gate_callee (f := 30) rfl ?_); refine goesL_ (some 13) rfl rfl Tryd.func30 (by kernel_rfl) rfl #[.slice A0 l0.length c0] rfl (by (try simp only [List.map_toArray, List.map_cons, List.map_nil]); first | done | rfl | (simp only [List.length_drop, List.length_take]; rfl)) ?_; (with_reducible refine (laws_toMoveS.calls k _ _ l0 t302 _ ?side1 ?side2 A5.out).mono ?_); (case side1 => repeat (first | exact (Kd.C_below HR0.out HB.out) | (with_reducible refine Kd.C_alloc ?_ _) | (with_reducible refine Kd.C_drewN ?_ _) | (with_reducible refine Kd.C_drew ?_))); (case side2 => exact HC0.out); rintro e w32 ⟨v303, rfl, ho0, hb⟩; refine ⟨_, rfl, ?_⟩; have n0_ := Aside0.mk (Kd.R_lower ho0 (below_size (by repeat (first | (with_reducible first | exact HB.out | apply below_alloc | apply pw_below_drewN | apply below_drew1) | exact HB.out)))); have n1_ := Aside0.mk (below_step (by repeat (first | (with_reducible first | exact HB.out | apply below_alloc | apply pw_below_drewN | apply below_drew1) | exact HB.out)) hb); clear HB; have HO304 := n0_; have HB := n1_; clear n0_ n1_; (try clear hb); (try clear hb2); (try clear hk); (try clear hi); (try clear ho0); obtain ⟨Ao33, co33, eo33⟩ := Kd.R_slice HO304.out; subst eo33) | ((with_reducible refine gate_callee (f := 29) rfl ?_); refine goesL_ (some 14) rfl rfl Tryd.func29 (by kernel_rfl) rfl #[.slice Ao33 t302.length co33] rfl (by (try simp only [List.map_toArray, List.map_cons, List.map_nil]); first | done | rfl | (simp only [List.length_drop, List.length_take]; rfl)) ?_; (with_reducible refine (spec_MovesText.calls k _ _ t302 t305 t306 _ ?side1 ?side2 A6.out).mono ?_); (case side1 => repeat (first | exact (Kd.R_reads' HO304.out).2.2 | (with_reducible refine Kd.C_alloc ?_ _) | (with_reducible refine Kd.C_drewN ?_ _) | (with_reducible refine Kd.C_drew ?_))); (case side2 => exact (Kd.R_reads' HO304.out).2.1); rintro e w34 ⟨rfl, hb⟩; refine ⟨_, rfl, ?_⟩; have n0_ := Aside0.mk (Kd.R_below (by (with_reducible repeat (first | apply Kd.R_alloc | apply Kd.R_drewN | apply Kd.R_drew)); exact HO304.out) hb); have n1_ := Aside0.mk (below_step (by repeat (first | (with_reducible first | exact HB.out | apply below_alloc | apply pw_below_drewN | apply below_drew1) | exact HB.out)) hb); clear HO304; clear HB; have HO304 := n0_; have HB := n1_; clear n0_ n1_; (try clear hb); (try clear hb2); (try clear hk); (try clear hi)) | ((with_reducible refine gate_dst (N := 4) rfl ?_); refine box_event ?hg (N := 4) ?hd (cs := #[.int .i64 0, .string (⟨#[]⟩ : ByteArray)]) (t := 46) ?hr ?_; (case hd => rfl); (case hg => rfl); (case hr => first | (go_simp; done) | (go_simp; rfl)); intro gb307 hg w35 hbox hb; have n0_ := Aside0.mk (Kd.R_below (by (with_reducible repeat (first | apply Kd.R_alloc | apply Kd.R_drewN | apply Kd.R_drew)); exact HO304.out) hb); have n1_ := Aside0.mk (below_step (by repeat (first | (with_reducible first | exact HB.out | apply below_alloc | apply pw_below_drewN | apply below_drew1) | exact HB.out)) hb); have n2_ := Aside0.mk (hbox); have n3_ := Aside0.mk ((by rw [hg]; exact (below_size (by repeat (first | (with_reducible first | exact HB.out | apply below_alloc | apply pw_below_drewN | apply below_drew1) | exact HB.out))) : w.heap.size ≤ gb307)); have n4_ := Aside0.mk ((by rw [hg]; exact (below_size (by repeat (first | (with_reducible first | exact HB.out | apply below_alloc | apply pw_below_drewN | apply below_drew1) | exact HB.out))) : w.heap.size ≤ gb307)); clear HO304; clear HB; have HO304 := n0_; have HB := n1_; have BK307 := n2_; have GW307 := n3_; have GE307 := n4_; clear n0_ n1_ n2_ n3_ n4_; clear hb hbox hg; have hcz36_0 : w35.cell? ⟨gb307, 0, none⟩ = some (.int .i64 0) := (blk_cell BK307.out 0).trans rfl; have hcz36_1 : w35.cell? ⟨gb307, 1, none⟩ = some (.string (⟨#[]⟩ : ByteArray)) := (blk_cell BK307.out 1).trans rfl; have hfz36_0 := blk_frozen BK307.out 0; have hfz36_1 := blk_frozen BK307.out 1) | ((with_reducible refine gate_callee (f := 30) rfl ?_); refine goesL_ (some 16) rfl rfl Tryd.func30 (by kernel_rfl) rfl #[.slice A0 l0.length c0] rfl (by (try simp only [List.map_toArray, List.map_cons, List.map_nil]); first | done | rfl | (simp only [List.length_drop, List.length_take]; rfl)) ?_; (with_reducible refine (laws_toMoveS.calls k _ _ l0 t308 _ ?side1 ?side2 A7.out).mono ?_); (case side1 => exact Kd.C_below HR0.out (by repeat (first | (with_reducible first | exact HB.out | apply below_alloc | apply pw_below_drewN | apply below_drew1 | refine below_set ?_ GE307.out) | exact HB.out))); (case side2 => exact HC0.out); rintro e w37 ⟨v309, rfl, ho0, hb⟩; refine ⟨_, rfl, ?_⟩; have n0_ := Aside0.mk (Kd.R_elder' (by (with_reducible repeat (first | apply Kd.R_alloc | apply Kd.R_drewN | apply Kd.R_drew)); exact (Kd.R_mono (Kd.R_far (p := ⟨gb307, 1, none⟩) (Kd.R_far (p := ⟨gb307, 0, none⟩) (Kd.R_types HO304.out BK307.out (by decide)) (fun _ hk => hk.2) (.int .i64 t305)) (fun _ hk => hk.2) (.string t306)) (fun _ h_ => h_.1))) (Kd.R_base ho0) hb); have n1_ := Aside0.mk (Kd.R_lower (Kd.R_new' ho0 (Kd.R_lt (by (with_reducible repeat (first | apply Kd.R_alloc | apply Kd.R_drewN | apply Kd.R_drew)); exact (Kd.R_mono (Kd.R_far (p := ⟨gb307, 1, none⟩) (Kd.R_far (p := ⟨gb307, 0, none⟩) (Kd.R_types HO304.out BK307.out (by decide)) (fun _ hk => hk.2) (.int .i64 t305)) (fun _ hk => hk.2) (.string t306)) (fun _ h_ => h_.1))))) (below_size (by repeat (first | (with_reducible first | exact HB.out | apply below_alloc | apply pw_below_drewN | apply below_drew1 | refine below_set ?_ GE307.out) | exact HB.out)))); have n2_ := Aside0.mk (blk_below (g := gb307) (o := .cells #[.int .i64 t305, .string t306] 46 (0, 0)) (by (with_reducible repeat (first | refine blk_drewN ?_ _ | refine blk_drew ?_ | refine blk_alloc ?_ _)); refine blk_put (cs := #[.int .i64 t305, .string (⟨#[]⟩ : ByteArray)]) ?_ 1 _ rfl; (with_reducible repeat (first | refine blk_drewN ?_ _ | refine blk_drew ?_ | refine blk_alloc ?_ _)); refine blk_put (cs := #[.int .i64 0, .string (⟨#[]⟩ : ByteArray)]) ?_ 0 _ rfl; (with_reducible repeat (first | refine blk_drewN ?_ _ | refine blk_drew ?_ | refine blk_alloc ?_ _)); exact BK307.out) hb); have n3_ := Aside0.mk (below_step (by repeat (first | (with_reducible first | exact HB.out | apply below_alloc | apply pw_below_drewN | apply below_drew1 | refine below_set ?_ GE307.out) | exact HB.out)) hb); clear HO304; clear BK307; clear HB; have HO304 := n0_; have HO310 := n1_; have BK307 := n2_; have HB := n3_; clear n0_ n1_ n2_ n3_; (try clear hb); (try clear hb2); (try clear hk); (try clear hi); (try clear ho0); obtain ⟨Ao38, co38, eo38⟩ := Kd.R_slice HO310.out; subst eo38) | ((with_reducible refine gate_callee (f := 31) rfl ?_); refine goesL_ (some 18) rfl rfl Tryd.func31 (by kernel_rfl) rfl #[.slice Ao38 t308.length co38] rfl (by (try simp only [List.map_toArray, List.map_cons, List.map_nil]); first | done | rfl | (simp only [List.length_drop, List.length_take]; rfl)) ?_; (with_reducible refine (impl_MovesText.calls _ _ t308 t311 t312 _ ?side1 ?side2 (Gt.below HG.out (by repeat (first | (with_reducible first | exact HB.out | apply below_alloc | apply pw_below_drewN | apply below_drew1 | refine below_set ?_ GE307.out) | exact HB.out))) A8.out).mono ?_); (case side1 => repeat (first | exact (Kd.R_reads' HO310.out).2.2 | (with_reducible refine Kd.C_alloc ?_ _) | (with_reducible refine Kd.C_drewN ?_ _) | (with_reducible refine Kd.C_drew ?_))); (case side2 => exact (Kd.R_reads' HO310.out).2.1); rintro e w39 ⟨rfl, hb⟩; refine ⟨_, rfl, ?_⟩; have n0_ := Aside0.mk (Kd.R_below (by (with_reducible repeat (first | apply Kd.R_alloc | apply Kd.R_drewN | apply Kd.R_drew)); exact HO304.out) hb); have n1_ := Aside0.mk (Kd.R_below (by (with_reducible repeat (first | apply Kd.R_alloc | apply Kd.R_drewN | apply Kd.R_drew)); exact HO310.out) hb); have n2_ := Aside0.mk (blk_below (g := gb307) (o := .cells #[.int .i64 t305, .string t306] 46 (0, 0)) (by (with_reducible repeat (first | refine blk_drewN ?_ _ | refine blk_drew ?_ | refine blk_alloc ?_ _)); exact BK307.out) hb); have n3_ := Aside0.mk (below_step (by repeat (first | (with_reducible first | exact HB.out | apply below_alloc | apply pw_below_drewN | apply below_drew1 | refine below_set ?_ GE307.out) | exact HB.out)) hb); clear HO304; clear HO310; clear BK307; clear HB; have HO304 := n0_; have HO310 := n1_; have BK307 := n2_; have HB := n3_; clear n0_ n1_ n2_ n3_; (try clear hb); (try clear hb2); (try clear hk); (try clear hi)) | ((with_reducible refine gate_dst (N := 6) rfl ?_); refine box_event ?hg (N := 6) ?hd (cs := #[.int .i64 0, .string (⟨#[]⟩ : ByteArray)]) (t := 46) ?hr ?_; (case hd => rfl); (case hg => rfl); (case hr => first | (go_simp; done) | (go_simp; rfl)); intro gb313 hg w40 hbox hb; have n0_ := Aside0.mk (Kd.R_below (by (with_reducible repeat (first | apply Kd.R_alloc | apply Kd.R_drewN | apply Kd.R_drew)); exact HO304.out) hb); have n1_ := Aside0.mk (Kd.R_below (by (with_reducible repeat (first | apply Kd.R_alloc | apply Kd.R_drewN | apply Kd.R_drew)); exact HO310.out) hb); have n2_ := Aside0.mk (blk_below (g := gb307) (o := .cells #[.int .i64 t305, .string t306] 46 (0, 0)) (by (with_reducible repeat (first | refine blk_drewN ?_ _ | refine blk_drew ?_ | refine blk_alloc ?_ _)); exact BK307.out) hb); have n3_ := Aside0.mk (below_step (by repeat (first | (with_reducible first | exact HB.out | apply below_alloc | apply pw_below_drewN | apply below_drew1 | refine below_set ?_ GE307.out) | exact HB.out)) hb); have n4_ := Aside0.mk (hbox); have n5_ := Aside0.mk ((by rw [hg]; exact (below_size (by repeat (first | (with_reducible first | exact HB.out | apply below_alloc | apply pw_below_drewN | apply below_drew1 | refine below_set ?_ GE307.out) | exact HB.out))) : w.heap.size ≤ gb313)); have n6_ := Aside0.mk ((by rw [hg]; exact (below_size (by repeat (first | (with_reducible first | exact HB.out | apply below_alloc | apply pw_below_drewN | apply below_drew1 | refine below_set ?_ GE307.out) | exact HB.out))) : w.heap.size ≤ gb313)); have n7_ := Aside0.mk ((by rw [hg]; exact Nat.ne_of_lt (blk_lt (g := gb307) (o := .cells #[.int .i64 t305, .string t306] 46 (0, 0)) (by (with_reducible repeat (first | refine blk_drewN ?_ _ | refine blk_drew ?_ | refine blk_alloc ?_ _)); exact BK307.out)) : gb307 ≠ gb313)); have n8_ := Aside0.mk ((by rw [hg]; exact Nat.ne_of_gt (blk_lt (g := gb307) (o := .cells #[.int .i64 t305, .string t306] 46 (0, 0)) (by (with_reducible repeat (first | refine blk_drewN ?_ _ | refine blk_drew ?_ | refine blk_alloc ?_ _)); exact BK307.out)) : gb313 ≠ gb307)); clear HO304; clear HO310; clear BK307; clear HB; have HO304 := n0_; have HO310 := n1_; have BK307 := n2_; have HB := n3_; have BK313 := n4_; have GW313 := n5_; have GE313 := n6_; have NB307_313 := n7_; have NB313_307 := n8_; clear n0_ n1_ n2_ n3_ n4_ n5_ n6_ n7_ n8_; clear hb hbox hg; have hnb41 := NB313_307.out; have hnc41 := NB307_313.out; have hcz42_0 : w40.cell? ⟨gb313, 0, none⟩ = some (.int .i64 0) := (blk_cell BK313.out 0).trans rfl; have hcz42_1 : w40.cell? ⟨gb313, 1, none⟩ = some (.string (⟨#[]⟩ : ByteArray)) := (blk_cell BK313.out 1).trans rfl; have hfz42_0 := blk_frozen BK313.out 0; have hfz42_1 := blk_frozen BK313.out 1; have hcz43_0 : w40.cell? ⟨gb307, 0, none⟩ = some (.int .i64 t305) := (blk_cell BK307.out 0).trans rfl; have hcz43_1 : w40.cell? ⟨gb307, 1, none⟩ = some (.string t306) := (blk_cell BK307.out 1).trans rfl; have hfz43_0 := blk_frozen BK307.out 0; have hfz43_1 := blk_frozen BK307.out 1) | ((with_reducible refine gate_callee (f := 32) rfl ?_); refine goesL_ (some 21) rfl rfl Tryd.func32 (by kernel_rfl) rfl #[.agg #[.int .i64 t311, .string t312], .agg #[.int .i64 t305, .string t306]] rfl (by (try simp only [List.map_toArray, List.map_cons, List.map_nil]); first | done | rfl | (simp only [List.length_drop, List.length_take]; rfl)) ?_; (with_reducible refine (laws_eqTextResult.calls t311 t312 t305 t306 true _ A9.out).mono ?_); rintro e w44 ⟨rfl, hb⟩; refine ⟨_, rfl, ?_⟩; have n0_ := Aside0.mk (Kd.R_below (by (with_reducible repeat (first | apply Kd.R_alloc | apply Kd.R_drewN | apply Kd.R_drew)); exact (Kd.R_mono (Kd.R_far (p := ⟨gb313, 1, none⟩) (Kd.R_far (p := ⟨gb313, 0, none⟩) (Kd.R_types HO304.out BK313.out (by decide)) (fun _ hk => hk.2) (.int .i64 t311)) (fun _ hk => hk.2) (.string t312)) (fun _ h_ => h_.1))) hb); have n1_ := Aside0.mk (Kd.R_below (by (with_reducible repeat (first | apply Kd.R_alloc | apply Kd.R_drewN | apply Kd.R_drew)); exact (Kd.R_mono (Kd.R_far (p := ⟨gb313, 1, none⟩) (Kd.R_far (p := ⟨gb313, 0, none⟩) (Kd.R_types HO310.out BK313.out (by decide)) (fun _ hk => hk.2) (.int .i64 t311)) (fun _ hk => hk.2) (.string t312)) (fun _ h_ => h_.1))) hb); have n2_ := Aside0.mk (blk_below (g := gb307) (o := .cells #[.int .i64 t305, .string t306] 46 (0, 0)) (by (with_reducible repeat (first | refine blk_drewN ?_ _ | refine blk_drew ?_ | refine blk_alloc ?_ _)); refine blk_far ?_ NB307_313.out _; (with_reducible repeat (first | refine blk_drewN ?_ _ | refine blk_drew ?_ | refine blk_alloc ?_ _)); refine blk_far ?_ NB307_313.out _; (with_reducible repeat (first | refine blk_drewN ?_ _ | refine blk_drew ?_ | refine blk_alloc ?_ _)); exact BK307.out) hb); have n3_ := Aside0.mk (blk_below (g := gb313) (o := .cells #[.int .i64 t311, .string t312] 46 (0, 0)) (by (with_reducible repeat (first | refine blk_drewN ?_ _ | refine blk_drew ?_ | refine blk_alloc ?_ _)); refine blk_put (cs := #[.int .i64 t311, .string (⟨#[]⟩ : ByteArray)]) ?_ 1 _ rfl; (with_reducible repeat (first | refine blk_drewN ?_ _ | refine blk_drew ?_ | refine blk_alloc ?_ _)); refine blk_put (cs := #[.int .i64 0, .string (⟨#[]⟩ : ByteArray)]) ?_ 0 _ rfl; (with_reducible repeat (first | refine blk_drewN ?_ _ | refine blk_drew ?_ | refine blk_alloc ?_ _)); exact BK313.out) hb); have n4_ := Aside0.mk (below_step (by repeat (first | (with_reducible first | exact HB.out | apply below_alloc | apply pw_below_drewN | apply below_drew1 | refine below_set ?_ GE307.out | refine below_set ?_ GE313.out) | exact HB.out)) hb); clear HO304; clear HO310; clear BK307; clear BK313; clear HB; have HO304 := n0_; have HO310 := n1_; have BK307 := n2_; have BK313 := n3_; have HB := n4_; clear n0_ n1_ n2_ n3_ n4_; (try clear hb); (try clear hb2); (try clear hk); (try clear hi)) | ((with_reducible refine gate_callee (f := 30) rfl ?_); refine goesL_ (some 25) rfl rfl Tryd.func30 (by kernel_rfl) rfl #[.slice A0 l0.length c0] rfl (by (try simp only [List.map_toArray, List.map_cons, List.map_nil]); first | done | rfl | (simp only [List.length_drop, List.length_take]; rfl)) ?_; (with_reducible refine (laws_toMoveS.calls k _ _ l0 t315 _ ?side1 ?side2 A11.out).mono ?_); (case side1 => repeat (first | exact (Kd.C_below HR0.out HB.out) | (with_reducible refine Kd.C_alloc ?_ _) | (with_reducible refine Kd.C_drewN ?_ _) | (with_reducible refine Kd.C_drew ?_))); (case side2 => exact HC0.out); rintro e w45 ⟨v316, rfl, ho0, hb⟩; refine ⟨_, rfl, ?_⟩; have n0_ := Aside0.mk (Kd.R_elder' (by (with_reducible repeat (first | apply Kd.R_alloc | apply Kd.R_drewN | apply Kd.R_drew)); exact HO304.out) (Kd.R_base ho0) hb); have n1_ := Aside0.mk (Kd.R_elder' (by (with_reducible repeat (first | apply Kd.R_alloc | apply Kd.R_drewN | apply Kd.R_drew)); exact HO310.out) (Kd.R_base ho0) hb); have n2_ := Aside0.mk (Kd.R_lower (Kd.R_new' (Kd.R_new' ho0 (Kd.R_lt (by (with_reducible repeat (first | apply Kd.R_alloc | apply Kd.R_drewN | apply Kd.R_drew)); exact HO304.out))) (Kd.R_lt (by (with_reducible repeat (first | apply Kd.R_alloc | apply Kd.R_drewN | apply Kd.R_drew)); exact HO310.out))) (below_size (by repeat (first | (with_reducible first | exact HB.out | apply below_alloc | apply pw_below_drewN | apply below_drew1 | refine below_set ?_ GE307.out | refine below_set ?_ GE313.out) | exact HB.out)))); have n3_ := Aside0.mk (blk_below (g := gb307) (o := .cells #[.int .i64 t305, .string t306] 46 (0, 0)) (by (with_reducible repeat (first | refine blk_drewN ?_ _ | refine blk_drew ?_ | refine blk_alloc ?_ _)); exact BK307.out) hb); have n4_ := Aside0.mk (blk_below (g := gb313) (o := .cells #[.int .i64 t311, .string t312] 46 (0, 0)) (by (with_reducible repeat (first | refine blk_drewN ?_ _ | refine blk_drew ?_ | refine blk_alloc ?_ _)); exact BK313.out) hb); have n5_ := Aside0.mk (below_step (by repeat (first | (with_reducible first | exact HB.out | apply below_alloc | apply pw_below_drewN | apply below_drew1 | refine below_set ?_ GE307.out | refine below_set ?_ GE313.out) | exact HB.out)) hb); clear HO304; clear HO310; clear BK307; clear BK313; clear HB; have HO304 := n0_; have HO310 := n1_; have HO317 := n2_; have BK307 := n3_; have BK313 := n4_; have HB := n5_; clear n0_ n1_ n2_ n3_ n4_ n5_; (try clear hb); (try clear hb2); (try clear hk); (try clear hi); (try clear ho0); obtain ⟨Ao46, co46, eo46⟩ := Kd.R_slice HO317.out; subst eo46) | ((with_reducible refine gate_callee (f := 33) rfl ?_); refine goesL_ (some 26) rfl rfl Tryd.func33 (by kernel_rfl) rfl #[.slice Ao38 t308.length co38, .slice Ao46 t315.length co46] rfl (by (try simp only [List.map_toArray, List.map_cons, List.map_nil]); first | done | rfl | (simp only [List.length_drop, List.length_take]; rfl)) ?_; (with_reducible refine (laws_eqMoveS.calls k _ _ t308 _ _ t315 false _ ?side1 ?side2 ?side3 ?side4 A12.out).mono ?_); (case side1 => repeat (first | exact (Kd.R_reads' HO310.out).2.2 | (with_reducible refine Kd.C_alloc ?_ _) | (with_reducible refine Kd.C_drewN ?_ _) | (with_reducible refine Kd.C_drew ?_))); (case side2 => exact (Kd.R_reads' HO310.out).2.1); (case side3 => repeat (first | exact (Kd.R_reads' HO317.out).2.2 | (with_reducible refine Kd.C_alloc ?_ _) | (with_reducible refine Kd.C_drewN ?_ _) | (with_reducible refine Kd.C_drew ?_))); (case side4 => exact (Kd.R_reads' HO317.out).2.1); rintro e w47 ⟨rfl, hb⟩; refine ⟨_, rfl, ?_⟩; have n0_ := Aside0.mk (Kd.R_below (by (with_reducible repeat (first | apply Kd.R_alloc | apply Kd.R_drewN | apply Kd.R_drew)); exact HO304.out) hb); have n1_ := Aside0.mk (Kd.R_below (by (with_reducible repeat (first | apply Kd.R_alloc | apply Kd.R_drewN | apply Kd.R_drew)); exact HO310.out) hb); have n2_ := Aside0.mk (Kd.R_below (by (with_reducible repeat (first | apply Kd.R_alloc | apply Kd.R_drewN | apply Kd.R_drew)); exact HO317.out) hb); have n3_ := Aside0.mk (blk_below (g := gb307) (o := .cells #[.int .i64 t305, .string t306] 46 (0, 0)) (by (with_reducible repeat (first | refine blk_drewN ?_ _ | refine blk_drew ?_ | refine blk_alloc ?_ _)); exact BK307.out) hb); have n4_ := Aside0.mk (blk_below (g := gb313) (o := .cells #[.int .i64 t311, .string t312] 46 (0, 0)) (by (with_reducible repeat (first | refine blk_drewN ?_ _ | refine blk_drew ?_ | refine blk_alloc ?_ _)); exact BK313.out) hb); have n5_ := Aside0.mk (below_step (by repeat (first | (with_reducible first | exact HB.out | apply below_alloc | apply pw_below_drewN | apply below_drew1 | refine below_set ?_ GE307.out | refine below_set ?_ GE313.out) | exact HB.out)) hb); clear HO304; clear HO310; clear HO317; clear BK307; clear BK313; clear HB; have HO304 := n0_; have HO310 := n1_; have HO317 := n2_; have BK307 := n3_; have BK313 := n4_; have HB := n5_; clear n0_ n1_ n2_ n3_ n4_ n5_; (try clear hb); (try clear hb2); (try clear hk); (try clear hi)))
    go_ret
    exact ⟨by first | rfl | (simp [errW_none, errW_some] <;> rfl) | (simp [*, errW_none, errW_some] <;> rfl), by repeat (first | (with_reducible first | exact HB.out | apply below_alloc | apply pw_below_drewN | apply below_drew1 | refine below_set ?_ GE307.out | refine below_set ?_ GE313.out) | exact HB.out)⟩
  ·
   replace c10 := Bool.eq_false_iff.mpr c10
   subst c10
   have H1 : (some false) = some r := by rw [if_neg (show ¬ (false = true) by decide)] at H; exact H
   clear H
   have H := H1
   clear H1
   obtain rfl := Option.some.inj H
   go_enter Tryd.func6, Tryd.ntmps6
   go_wp2_with (first | ((with_reducible refine gate_callee (f := 28) rfl ?_); refine goesL_ (some 9) rfl rfl Tryd.func28 (by kernel_rfl) rfl #[.slice A0 l0.length c0, .int .i64 1048576] rfl (by (try simp only [List.map_toArray, List.map_cons, List.map_nil]); first | done | rfl | (simp only [List.length_drop, List.length_take]; rfl)) ?_; (with_reducible refine (laws_szMoveS.calls k _ _ l0 1048576 t301 _ ?side1 ?side2 A2.out).mono ?_); (case side1 => repeat (first | exact HR0.out | (with_reducible refine Kd.C_alloc ?_ _) | (with_reducible refine Kd.C_drewN ?_ _) | (with_reducible refine Kd.C_drew ?_))); (case side2 => exact HC0.out); rintro e w48 ⟨rfl, hb⟩; refine ⟨_, rfl, ?_⟩; have n0_ := Aside0.mk (below_step (by repeat (first | (with_reducible first | exact HB.out | apply below_alloc | apply pw_below_drewN | apply below_drew1) | exact HB.out)) hb); clear HB; have HB := n0_; clear n0_; (try clear hb); (try clear hb2); (try clear hk); (try clear hi)) | ((with_reducible refine gate_callee (f := 30) rfl ?_); refine goesL_ (some 13) rfl rfl Tryd.func30 (by kernel_rfl) rfl #[.slice A0 l0.length c0] rfl (by (try simp only [List.map_toArray, List.map_cons, List.map_nil]); first | done | rfl | (simp only [List.length_drop, List.length_take]; rfl)) ?_; (with_reducible refine (laws_toMoveS.calls k _ _ l0 t302 _ ?side1 ?side2 A5.out).mono ?_); (case side1 => repeat (first | exact (Kd.C_below HR0.out HB.out) | (with_reducible refine Kd.C_alloc ?_ _) | (with_reducible refine Kd.C_drewN ?_ _) | (with_reducible refine Kd.C_drew ?_))); (case side2 => exact HC0.out); rintro e w49 ⟨v303, rfl, ho0, hb⟩; refine ⟨_, rfl, ?_⟩; have n0_ := Aside0.mk (Kd.R_lower ho0 (below_size (by repeat (first | (with_reducible first | exact HB.out | apply below_alloc | apply pw_below_drewN | apply below_drew1) | exact HB.out)))); have n1_ := Aside0.mk (below_step (by repeat (first | (with_reducible first | exact HB.out | apply below_alloc | apply pw_below_drewN | apply below_drew1) | exact HB.out)) hb); clear HB; have HO304 := n0_; have HB := n1_; clear n0_ n1_; (try clear hb); (try clear hb2); (try clear hk); (try clear hi); (try clear ho0); obtain ⟨Ao50, co50, eo50⟩ := Kd.R_slice HO304.out; subst eo50) | ((with_reducible refine gate_callee (f := 29) rfl ?_); refine goesL_ (some 14) rfl rfl Tryd.func29 (by kernel_rfl) rfl #[.slice Ao50 t302.length co50] rfl (by (try simp only [List.map_toArray, List.map_cons, List.map_nil]); first | done | rfl | (simp only [List.length_drop, List.length_take]; rfl)) ?_; (with_reducible refine (spec_MovesText.calls k _ _ t302 t305 t306 _ ?side1 ?side2 A6.out).mono ?_); (case side1 => repeat (first | exact (Kd.R_reads' HO304.out).2.2 | (with_reducible refine Kd.C_alloc ?_ _) | (with_reducible refine Kd.C_drewN ?_ _) | (with_reducible refine Kd.C_drew ?_))); (case side2 => exact (Kd.R_reads' HO304.out).2.1); rintro e w51 ⟨rfl, hb⟩; refine ⟨_, rfl, ?_⟩; have n0_ := Aside0.mk (Kd.R_below (by (with_reducible repeat (first | apply Kd.R_alloc | apply Kd.R_drewN | apply Kd.R_drew)); exact HO304.out) hb); have n1_ := Aside0.mk (below_step (by repeat (first | (with_reducible first | exact HB.out | apply below_alloc | apply pw_below_drewN | apply below_drew1) | exact HB.out)) hb); clear HO304; clear HB; have HO304 := n0_; have HB := n1_; clear n0_ n1_; (try clear hb); (try clear hb2); (try clear hk); (try clear hi)) | ((with_reducible refine gate_dst (N := 4) rfl ?_); refine box_event ?hg (N := 4) ?hd (cs := #[.int .i64 0, .string (⟨#[]⟩ : ByteArray)]) (t := 46) ?hr ?_; (case hd => rfl); (case hg => rfl); (case hr => first | (go_simp; done) | (go_simp; rfl)); intro gb307 hg w52 hbox hb; have n0_ := Aside0.mk (Kd.R_below (by (with_reducible repeat (first | apply Kd.R_alloc | apply Kd.R_drewN | apply Kd.R_drew)); exact HO304.out) hb); have n1_ := Aside0.mk (below_step (by repeat (first | (with_reducible first | exact HB.out | apply below_alloc | apply pw_below_drewN | apply below_drew1) | exact HB.out)) hb); have n2_ := Aside0.mk (hbox); have n3_ := Aside0.mk ((by rw [hg]; exact (below_size (by repeat (first | (with_reducible first | exact HB.out | apply below_alloc | apply pw_below_drewN | apply below_drew1) | exact HB.out))) : w.heap.size ≤ gb307)); have n4_ := Aside0.mk ((by rw [hg]; exact (below_size (by repeat (first | (with_reducible first | exact HB.out | apply below_alloc | apply pw_below_drewN | apply below_drew1) | exact HB.out))) : w.heap.size ≤ gb307)); clear HO304; clear HB; have HO304 := n0_; have HB := n1_; have BK307 := n2_; have GW307 := n3_; have GE307 := n4_; clear n0_ n1_ n2_ n3_ n4_; clear hb hbox hg; have hcz53_0 : w52.cell? ⟨gb307, 0, none⟩ = some (.int .i64 0) := (blk_cell BK307.out 0).trans rfl; have hcz53_1 : w52.cell? ⟨gb307, 1, none⟩ = some (.string (⟨#[]⟩ : ByteArray)) := (blk_cell BK307.out 1).trans rfl; have hfz53_0 := blk_frozen BK307.out 0; have hfz53_1 := blk_frozen BK307.out 1) | ((with_reducible refine gate_callee (f := 30) rfl ?_); refine goesL_ (some 16) rfl rfl Tryd.func30 (by kernel_rfl) rfl #[.slice A0 l0.length c0] rfl (by (try simp only [List.map_toArray, List.map_cons, List.map_nil]); first | done | rfl | (simp only [List.length_drop, List.length_take]; rfl)) ?_; (with_reducible refine (laws_toMoveS.calls k _ _ l0 t308 _ ?side1 ?side2 A7.out).mono ?_); (case side1 => exact Kd.C_below HR0.out (by repeat (first | (with_reducible first | exact HB.out | apply below_alloc | apply pw_below_drewN | apply below_drew1 | refine below_set ?_ GE307.out) | exact HB.out))); (case side2 => exact HC0.out); rintro e w54 ⟨v309, rfl, ho0, hb⟩; refine ⟨_, rfl, ?_⟩; have n0_ := Aside0.mk (Kd.R_elder' (by (with_reducible repeat (first | apply Kd.R_alloc | apply Kd.R_drewN | apply Kd.R_drew)); exact (Kd.R_mono (Kd.R_far (p := ⟨gb307, 1, none⟩) (Kd.R_far (p := ⟨gb307, 0, none⟩) (Kd.R_types HO304.out BK307.out (by decide)) (fun _ hk => hk.2) (.int .i64 t305)) (fun _ hk => hk.2) (.string t306)) (fun _ h_ => h_.1))) (Kd.R_base ho0) hb); have n1_ := Aside0.mk (Kd.R_lower (Kd.R_new' ho0 (Kd.R_lt (by (with_reducible repeat (first | apply Kd.R_alloc | apply Kd.R_drewN | apply Kd.R_drew)); exact (Kd.R_mono (Kd.R_far (p := ⟨gb307, 1, none⟩) (Kd.R_far (p := ⟨gb307, 0, none⟩) (Kd.R_types HO304.out BK307.out (by decide)) (fun _ hk => hk.2) (.int .i64 t305)) (fun _ hk => hk.2) (.string t306)) (fun _ h_ => h_.1))))) (below_size (by repeat (first | (with_reducible first | exact HB.out | apply below_alloc | apply pw_below_drewN | apply below_drew1 | refine below_set ?_ GE307.out) | exact HB.out)))); have n2_ := Aside0.mk (blk_below (g := gb307) (o := .cells #[.int .i64 t305, .string t306] 46 (0, 0)) (by (with_reducible repeat (first | refine blk_drewN ?_ _ | refine blk_drew ?_ | refine blk_alloc ?_ _)); refine blk_put (cs := #[.int .i64 t305, .string (⟨#[]⟩ : ByteArray)]) ?_ 1 _ rfl; (with_reducible repeat (first | refine blk_drewN ?_ _ | refine blk_drew ?_ | refine blk_alloc ?_ _)); refine blk_put (cs := #[.int .i64 0, .string (⟨#[]⟩ : ByteArray)]) ?_ 0 _ rfl; (with_reducible repeat (first | refine blk_drewN ?_ _ | refine blk_drew ?_ | refine blk_alloc ?_ _)); exact BK307.out) hb); have n3_ := Aside0.mk (below_step (by repeat (first | (with_reducible first | exact HB.out | apply below_alloc | apply pw_below_drewN | apply below_drew1 | refine below_set ?_ GE307.out) | exact HB.out)) hb); clear HO304; clear BK307; clear HB; have HO304 := n0_; have HO310 := n1_; have BK307 := n2_; have HB := n3_; clear n0_ n1_ n2_ n3_; (try clear hb); (try clear hb2); (try clear hk); (try clear hi); (try clear ho0); obtain ⟨Ao55, co55, eo55⟩ := Kd.R_slice HO310.out; subst eo55) | ((with_reducible refine gate_callee (f := 31) rfl ?_); refine goesL_ (some 18) rfl rfl Tryd.func31 (by kernel_rfl) rfl #[.slice Ao55 t308.length co55] rfl (by (try simp only [List.map_toArray, List.map_cons, List.map_nil]); first | done | rfl | (simp only [List.length_drop, List.length_take]; rfl)) ?_; (with_reducible refine (impl_MovesText.calls _ _ t308 t311 t312 _ ?side1 ?side2 (Gt.below HG.out (by repeat (first | (with_reducible first | exact HB.out | apply below_alloc | apply pw_below_drewN | apply below_drew1 | refine below_set ?_ GE307.out) | exact HB.out))) A8.out).mono ?_); (case side1 => repeat (first | exact (Kd.R_reads' HO310.out).2.2 | (with_reducible refine Kd.C_alloc ?_ _) | (with_reducible refine Kd.C_drewN ?_ _) | (with_reducible refine Kd.C_drew ?_))); (case side2 => exact (Kd.R_reads' HO310.out).2.1); rintro e w56 ⟨rfl, hb⟩; refine ⟨_, rfl, ?_⟩; have n0_ := Aside0.mk (Kd.R_below (by (with_reducible repeat (first | apply Kd.R_alloc | apply Kd.R_drewN | apply Kd.R_drew)); exact HO304.out) hb); have n1_ := Aside0.mk (Kd.R_below (by (with_reducible repeat (first | apply Kd.R_alloc | apply Kd.R_drewN | apply Kd.R_drew)); exact HO310.out) hb); have n2_ := Aside0.mk (blk_below (g := gb307) (o := .cells #[.int .i64 t305, .string t306] 46 (0, 0)) (by (with_reducible repeat (first | refine blk_drewN ?_ _ | refine blk_drew ?_ | refine blk_alloc ?_ _)); exact BK307.out) hb); have n3_ := Aside0.mk (below_step (by repeat (first | (with_reducible first | exact HB.out | apply below_alloc | apply pw_below_drewN | apply below_drew1 | refine below_set ?_ GE307.out) | exact HB.out)) hb); clear HO304; clear HO310; clear BK307; clear HB; have HO304 := n0_; have HO310 := n1_; have BK307 := n2_; have HB := n3_; clear n0_ n1_ n2_ n3_; (try clear hb); (try clear hb2); (try clear hk); (try clear hi)) | ((with_reducible refine gate_dst (N := 6) rfl ?_); refine box_event ?hg (N := 6) ?hd (cs := #[.int .i64 0, .string (⟨#[]⟩ : ByteArray)]) (t := 46) ?hr ?_; (case hd => rfl); (case hg => rfl); (case hr => first | (go_simp; done) | (go_simp; rfl)); intro gb313 hg w57 hbox hb; have n0_ := Aside0.mk (Kd.R_below (by (with_reducible repeat (first | apply Kd.R_alloc | apply Kd.R_drewN | apply Kd.R_drew)); exact HO304.out) hb); have n1_ := Aside0.mk (Kd.R_below (by (with_reducible repeat (first | apply Kd.R_alloc | apply Kd.R_drewN | apply Kd.R_drew)); exact HO310.out) hb); have n2_ := Aside0.mk (blk_below (g := gb307) (o := .cells #[.int .i64 t305, .string t306] 46 (0, 0)) (by (with_reducible repeat (first | refine blk_drewN ?_ _ | refine blk_drew ?_ | refine blk_alloc ?_ _)); exact BK307.out) hb); have n3_ := Aside0.mk (below_step (by repeat (first | (with_reducible first | exact HB.out | apply below_alloc | apply pw_below_drewN | apply below_drew1 | refine below_set ?_ GE307.out) | exact HB.out)) hb); have n4_ := Aside0.mk (hbox); have n5_ := Aside0.mk ((by rw [hg]; exact (below_size (by repeat (first | (with_reducible first | exact HB.out | apply below_alloc | apply pw_below_drewN | apply below_drew1 | refine below_set ?_ GE307.out) | exact HB.out))) : w.heap.size ≤ gb313)); have n6_ := Aside0.mk ((by rw [hg]; exact (below_size (by repeat (first | (with_reducible first | exact HB.out | apply below_alloc | apply pw_below_drewN | apply below_drew1 | refine below_set ?_ GE307.out) | exact HB.out))) : w.heap.size ≤ gb313)); have n7_ := Aside0.mk ((by rw [hg]; exact Nat.ne_of_lt (blk_lt (g := gb307) (o := .cells #[.int .i64 t305, .string t306] 46 (0, 0)) (by (with_reducible repeat (first | refine blk_drewN ?_ _ | refine blk_drew ?_ | refine blk_alloc ?_ _)); exact BK307.out)) : gb307 ≠ gb313)); have n8_ := Aside0.mk ((by rw [hg]; exact Nat.ne_of_gt (blk_lt (g := gb307) (o := .cells #[.int .i64 t305, .string t306] 46 (0, 0)) (by (with_reducible repeat (first | refine blk_drewN ?_ _ | refine blk_drew ?_ | refine blk_alloc ?_ _)); exact BK307.out)) : gb313 ≠ gb307)); clear HO304; clear HO310; clear BK307; clear HB; have HO304 := n0_; have HO310 := n1_; have BK307 := n2_; have HB := n3_; have BK313 := n4_; have GW313 := n5_; have GE313 := n6_; have NB307_313 := n7_; have NB313_307 := n8_; clear n0_ n1_ n2_ n3_ n4_ n5_ n6_ n7_ n8_; clear hb hbox hg; have hnb58 := NB313_307.out; have hnc58 := NB307_313.out; have hcz59_0 : w57.cell? ⟨gb313, 0, none⟩ = some (.int .i64 0) := (blk_cell BK313.out 0).trans rfl; have hcz59_1 : w57.cell? ⟨gb313, 1, none⟩ = some (.string (⟨#[]⟩ : ByteArray)) := (blk_cell BK313.out 1).trans rfl; have hfz59_0 := blk_frozen BK313.out 0; have hfz59_1 := blk_frozen BK313.out 1; have hcz60_0 : w57.cell? ⟨gb307, 0, none⟩ = some (.int .i64 t305) := (blk_cell BK307.out 0).trans rfl; have hcz60_1 : w57.cell? ⟨gb307, 1, none⟩ = some (.string t306) := (blk_cell BK307.out 1).trans rfl; have hfz60_0 := blk_frozen BK307.out 0; have hfz60_1 := blk_frozen BK307.out 1) | ((with_reducible refine gate_callee (f := 32) rfl ?_); refine goesL_ (some 21) rfl rfl Tryd.func32 (by kernel_rfl) rfl #[.agg #[.int .i64 t311, .string t312], .agg #[.int .i64 t305, .string t306]] rfl (by (try simp only [List.map_toArray, List.map_cons, List.map_nil]); first | done | rfl | (simp only [List.length_drop, List.length_take]; rfl)) ?_; (with_reducible refine (laws_eqTextResult.calls t311 t312 t305 t306 false _ A9.out).mono ?_); rintro e w61 ⟨rfl, hb⟩; refine ⟨_, rfl, ?_⟩; have n0_ := Aside0.mk (Kd.R_below (by (with_reducible repeat (first | apply Kd.R_alloc | apply Kd.R_drewN | apply Kd.R_drew)); exact (Kd.R_mono (Kd.R_far (p := ⟨gb313, 1, none⟩) (Kd.R_far (p := ⟨gb313, 0, none⟩) (Kd.R_types HO304.out BK313.out (by decide)) (fun _ hk => hk.2) (.int .i64 t311)) (fun _ hk => hk.2) (.string t312)) (fun _ h_ => h_.1))) hb); have n1_ := Aside0.mk (Kd.R_below (by (with_reducible repeat (first | apply Kd.R_alloc | apply Kd.R_drewN | apply Kd.R_drew)); exact (Kd.R_mono (Kd.R_far (p := ⟨gb313, 1, none⟩) (Kd.R_far (p := ⟨gb313, 0, none⟩) (Kd.R_types HO310.out BK313.out (by decide)) (fun _ hk => hk.2) (.int .i64 t311)) (fun _ hk => hk.2) (.string t312)) (fun _ h_ => h_.1))) hb); have n2_ := Aside0.mk (blk_below (g := gb307) (o := .cells #[.int .i64 t305, .string t306] 46 (0, 0)) (by (with_reducible repeat (first | refine blk_drewN ?_ _ | refine blk_drew ?_ | refine blk_alloc ?_ _)); refine blk_far ?_ NB307_313.out _; (with_reducible repeat (first | refine blk_drewN ?_ _ | refine blk_drew ?_ | refine blk_alloc ?_ _)); refine blk_far ?_ NB307_313.out _; (with_reducible repeat (first | refine blk_drewN ?_ _ | refine blk_drew ?_ | refine blk_alloc ?_ _)); exact BK307.out) hb); have n3_ := Aside0.mk (blk_below (g := gb313) (o := .cells #[.int .i64 t311, .string t312] 46 (0, 0)) (by (with_reducible repeat (first | refine blk_drewN ?_ _ | refine blk_drew ?_ | refine blk_alloc ?_ _)); refine blk_put (cs := #[.int .i64 t311, .string (⟨#[]⟩ : ByteArray)]) ?_ 1 _ rfl; (with_reducible repeat (first | refine blk_drewN ?_ _ | refine blk_drew ?_ | refine blk_alloc ?_ _)); refine blk_put (cs := #[.int .i64 0, .string (⟨#[]⟩ : ByteArray)]) ?_ 0 _ rfl; (with_reducible repeat (first | refine blk_drewN ?_ _ | refine blk_drew ?_ | refine blk_alloc ?_ _)); exact BK313.out) hb); have n4_ := Aside0.mk (below_step (by repeat (first | (with_reducible first | exact HB.out | apply below_alloc | apply pw_below_drewN | apply below_drew1 | refine below_set ?_ GE307.out | refine below_set ?_ GE313.out) | exact HB.out)) hb); clear HO304; clear HO310; clear BK307; clear BK313; clear HB; have HO304 := n0_; have HO310 := n1_; have BK307 := n2_; have BK313 := n3_; have HB := n4_; clear n0_ n1_ n2_ n3_ n4_; (try clear hb); (try clear hb2); (try clear hk); (try clear hi)))
   go_ret
   exact ⟨by first | rfl | (simp [errW_none, errW_some] <;> rfl) | (simp [*, errW_none, errW_some] <;> rfl), by repeat (first | (with_reducible first | exact HB.out | apply below_alloc | apply pw_below_drewN | apply below_drew1 | refine below_set ?_ GE307.out | refine below_set ?_ GE313.out) | exact HB.out)⟩

end Go.Proofs.YtcapmfgamdiijaaDoor.PX

namespace Go.Proofs.YtcapmfgamdiijaaDoorX
open Go Go.RowKit Go.Proofs.YtcapmfgamdiijaaDoorW.PrintWords Go.Proofs.YtcapmfgamdiijaaDoor.PX
set_option linter.unusedVariables false
set_option linter.unusedSimpArgs false

abbrev LMove := S115
abbrev IMove := X.MV
def moveOkL (x : LMove) : Prop := x.f0.size ≤ 140737488351232 ∧ x.f1.size ≤ 140737488351232
def moveConv (x : LMove) : IMove := ⟨x.f0, x.f1, x.f2⟩
def moveSmall (x : LMove) : Prop := x.f0.size ≤ 1048576 ∧ x.f1.size ≤ 1048576
theorem szMove_tells (x : LMove) (hx : moveOkL x) (left : Int) (h0 : 0 ≤ left) (h1 : left ≤ 1048576) : ∃ r, laws_szMove.f x.f0 x.f1 x.f2 left = some r ∧ r ≤ left ∧ (0 ≤ r → moveSmall x) := by
  obtain ⟨a, b⟩ := hx
  unfold laws_szMove.f moveSmall
  rw [wrap_in (i := left - _) (by omega) (by omega)]
  by_cases c : left - (x.f0.size : Int) < 0
  · rw [if_pos c]
    exact ⟨_, rfl, by omega, fun z => absurd z (by omega)⟩
  · rw [if_neg c, wrap_in (by omega) (by omega)]
    split
    · exact ⟨_, rfl, by omega, fun z => absurd z (by omega)⟩
    · exact ⟨_, rfl, by omega, fun z => by omega⟩
theorem szMoveS_tells (l : List LMove) (hl : l.length ≤ 140737488351232) (ho : ∀ x ∈ l, moveOkL x) (left : Int) (h0 : 0 ≤ left) (h1 : left ≤ 1048576) (k : Nat) (hk : l.length < k) :
    ∃ r, laws_szMoveS.f k l left = some r ∧ (0 ≤ r → l.length ≤ 1048576 ∧ ∀ x ∈ l, moveSmall x) := by
  unfold laws_szMoveS.f
  rw [wrap_in (by omega) (by omega)]
  split
  · exact ⟨_, rfl, fun z => absurd z (by omega)⟩
  · obtain ⟨r, hr, _, hq⟩ := sz_all (F := laws_szMoveS.l0) (Z := fun x left => laws_szMove.f x.f0 x.f1 x.f2 left) moveOkL moveSmall z115 szMove_tells (fun k xs left i => by rw [laws_szMoveS.l0]; rfl) l hl ho (left - l.length) (by omega) (by omega) k hk
    exact ⟨r, hr, fun z => ⟨by omega, hq z⟩⟩
theorem toMoveS_tells (l : List LMove) (hl : l.length ≤ 1048576) (k : Nat) (hk : l.length < k) : laws_toMoveS.f k l = some (l.map moveConv) := by
  unfold laws_toMoveS.f
  rw [if_pos (by omega), Int.toNat_natCast, if_pos (by omega)]
  exact to_all (F := laws_toMoveS.l0) moveConv z115 (fun k xs ys i => by rw [laws_toMoveS.l0]; rfl) l (by omega) _ k hk
theorem eqMove_tells (x y : IMove) : ∃ b, laws_eqMove.f x.f0 x.f1 x.f2 y.f0 y.f1 y.f2 = some b ∧ (b = true ↔ x = y) := by
  obtain ⟨a, b, c⟩ := x
  obtain ⟨a', b', c'⟩ := y
  unfold laws_eqMove.f
  simp only [toList_iff]
  by_cases h1 : a = a'
  · rw [if_pos h1]
    by_cases h2 : b = b'
    · rw [if_pos h2]
      by_cases h3 : c = c'
      · rw [if_pos h3]; exact ⟨_, rfl, by simp [h1, h2, h3]⟩
      · rw [if_neg h3]; exact ⟨_, rfl, by simp [h3]⟩
    · rw [if_neg h2]; exact ⟨_, rfl, by simp [h2]⟩
  · rw [if_neg h1]; exact ⟨_, rfl, by simp [h1]⟩
theorem eqMoveS_same (l : List IMove) (hl : l.length ≤ 1048576) (k : Nat) (hk : l.length < k) : laws_eqMoveS.f k l l = some true := by
  unfold laws_eqMoveS.f
  rw [if_pos rfl]
  exact eq_all (F := laws_eqMoveS.l0) (E := fun x y => laws_eqMove.f x.f0 x.f1 x.f2 y.f0 y.f1 y.f2) z116 eqMove_tells (fun k xs ys i => by rw [laws_eqMoveS.l0]; rfl) l (by omega) k hk

def mvSmall (l : List IMove) : Prop := ∀ x ∈ l, x.f0.size ≤ 1048576 ∧ x.f1.size ≤ 1048576 ∧ -9223372036854775808 ≤ x.f2 ∧ x.f2 ≤ 9223372036854775807
theorem rd_move (l : List IMove) (i : Nat) (h : i < l.length) : rd_T116 l (i : Int) = l[i] := by
  show l.getD ((i : Int)).toNat _ = _
  rw [Int.toNat_natCast, List.getD_eq_getElem?_getD, List.getElem?_eq_getElem h, Option.getD_some]
theorem up2 (n : Nat) (h : n < 9223372036854775807) : wrap64 ((n : Int) + 1) = ((n + 1 : Nat) : Int) := (wrap_in (by omega) (by omega)).trans (by omega)
theorem in1000 (a : Int) : spec_l1In.f a 0 1000 = some (decide (0 ≤ a) && decide (a ≤ 1000)) := by
  unfold spec_l1In.f
  by_cases h : a ≥ 0
  · rw [if_pos h, decide_eq_true h, Bool.true_and]
  · rw [if_neg h, decide_eq_false (by omega), Bool.false_and]
theorem line_eq (acc : List UInt8) (x : IMove) (u : Nat) (hu : x.f2 = (u : Int)) :
    ((((((mkB acc ++ x.f0) ++ (⟨#[32, 45, 62, 32]⟩ : ByteArray)) ++ x.f1) ++ (⟨#[32]⟩ : ByteArray)) ++ mkB (Lib.decDigits u)) ++ (⟨#[10]⟩ : ByteArray)) = mkB (acc ++ (X.moveB x).data.toList) := by
  refine ByteArray.ext ?_
  unfold X.moveB mkB
  rw [hu, Lib.itoa_nonneg]
  simp [ByteArray.data_append, Array.append_assoc]
theorem moveB_bytes (x : IMove) : (X.moveB x).data.toList.length = (X.moveB x).size := Array.length_toList
theorem spec_moves (l : List IMove) (hl : l.length ≤ 60) (hs : mvSmall l) : ∀ (d i : Nat), i + d = l.length → ∀ (acc : List UInt8), acc.length ≤ i * 3000000 → ∀ k, 2 * d + 1048700 < k → spec_MovesText.l0 k l (mkB acc) (i : Int) = some (X.movV (l.drop i) acc)
  | 0, i, hi, acc, ha, k, hk => by
    obtain ⟨k, rfl⟩ : ∃ m, k = m + 1 := ⟨k - 1, by omega⟩
    rw [spec_MovesText.l0, if_neg (by omega), List.drop_eq_nil_of_le (by omega)]
    rfl
  | d + 1, i, hi, acc, ha, k, hk => by
    obtain ⟨k, rfl⟩ : ∃ m, k = m + 2 := ⟨k - 2, by omega⟩
    have hlt : i < l.length := by omega
    obtain ⟨h0, h1, h2, h3⟩ := hs _ (List.getElem_mem hlt)
    rw [List.drop_eq_getElem_cons hlt, spec_MovesText.l0, if_pos (by omega), if_pos (by omega), rd_move l i hlt]
    have ihh := fun acc ha => spec_moves l hl hs d (i + 1) (by omega) acc ha k (by omega)
    have hj : ∀ b, spec_MovesText.j1 (k + 1) l (mkB acc) (i : Int) b = spec_MovesText.j1 (k + 1) l (mkB acc) (i : Int) b := fun _ => rfl
    have hrd := rd_move l i hlt
    show _ = some (if X.moveC l[i] = 0 then X.movV (l.drop (i + 1)) (acc ++ (X.moveB l[i]).data.toList) else (X.moveC l[i], ⟨#[]⟩))
    have hbs := X.moveB_size l[i]
    generalize l[i] = x at h0 h1 h2 h3 hrd hbs
    rw [spec_path x.f0 (by omega) (k + 1) (by omega), Option.bind_some]
    have e0 : impl_PathFault.v x.f0 = pathV x.f0 := rfl
    have e1 : impl_PathFault.v x.f1 = pathV x.f1 := rfl
    have hmc : X.moveC x = if pathV x.f0 = 0 then (if pathV x.f1 = 0 then X.scoreC x.f2 else pathV x.f1) else pathV x.f0 := rfl
    by_cases p0 : pathV x.f0 = 0
    · rw [if_pos p0, spec_path x.f1 (by omega) (k + 1) (by omega), Option.bind_some]
      rw [if_pos p0] at hmc
      by_cases p1 : pathV x.f1 = 0
      · rw [if_pos p1] at hmc
        rw [p1, show ((0 : Int) != 0) = false from rfl, spec_MovesText.j1, if_neg (by decide), if_pos (by omega), if_pos (by omega), hrd]
        change ((spec_l1In.f x.f2 0 1000).bind _) = _
        rw [in1000, Option.bind_some]
        by_cases hr : 0 ≤ x.f2 ∧ x.f2 ≤ 1000
        · obtain ⟨u, hu⟩ : ∃ u : Nat, x.f2 = (u : Int) := ⟨x.f2.toNat, by omega⟩
          have hz : X.moveC x = 0 := by rw [hmc]; unfold X.scoreC; rw [if_pos hr]
          have hit := X.itoa_le x.f2 hr.1 hr.2
          have hdl : (Lib.decDigits u).length = (Lib.itoa x.f2).length := by rw [hu, Lib.itoa_nonneg]
          obtain ⟨k', rfl⟩ : ∃ m, k = m + 1 := ⟨k - 1, by omega⟩
          have hdig := spec_digits k' u (Nat.lt_of_lt_of_le (show u < 10 ^ 10 by omega) (Nat.pow_le_pow_right (by decide) (by omega))) (by omega)
          have hih := ihh (acc ++ (X.moveB x).data.toList) (by rw [List.length_append, moveB_bytes, hbs]; omega)
          have hline := line_eq acc x u hu
          have z1 : (⟨#[32]⟩ : ByteArray).size = 1 := rfl
          have z3 : (⟨#[32, 45, 62, 32]⟩ : ByteArray).size = 4 := rfl
          rw [decide_eq_true hr.1, decide_eq_true hr.2, Bool.and_self, if_pos rfl, if_pos hz]
          rw [if_pos (by rw [mkB_len]; omega), if_pos (by simp only [ByteArray.size_append, mkB_len]; omega), if_pos (by simp only [ByteArray.size_append, mkB_len]; omega), if_pos (by simp only [ByteArray.size_append, mkB_len]; omega)]
          rw [show spec_l3Digits.f (k' + 1) x.f2 = _ from (hu ▸ hdig), Option.bind_some]
          rw [if_pos (by simp only [ByteArray.size_append, mkB_len]; omega), if_pos (by simp only [ByteArray.size_append, mkB_len]; omega), hline, up2 i (by omega)]
          exact hih
        · have hz : X.moveC x = 3 := by rw [hmc]; unfold X.scoreC; rw [if_neg hr]
          have hb : (decide (0 ≤ x.f2) && decide (x.f2 ≤ 1000)) = false := by
            rw [Bool.and_eq_false_iff, decide_eq_false_iff_not, decide_eq_false_iff_not]
            omega
          rw [hb, if_neg (by decide), hz, if_neg (by decide)]
      · rw [if_neg p1] at hmc
        have p2 : pathV x.f1 = 1 := (pathV_two x.f1).resolve_left p1
        rw [p2, show ((1 : Int) != 0) = true from rfl, spec_MovesText.j1, if_pos rfl, hmc, p2, if_neg (by decide)]
    · rw [if_neg p0] at hmc
      have p2 : pathV x.f0 = 1 := (pathV_two x.f0).resolve_left p0
      rw [if_neg p0, spec_MovesText.j1, if_pos rfl, hmc, p2, if_neg (by decide)]
def movesV (l : List IMove) : Int × ByteArray := if l.length > 60 then (2, (⟨#[]⟩ : ByteArray)) else X.movV l []
theorem spec_movesText (l : List IMove) (hs : mvSmall l) (hl : l.length ≤ 1048576) (k : Nat) (hk : 1048900 < k) : spec_MovesText.f k l = some (movesV l) := by
  unfold spec_MovesText.f movesV
  by_cases h : l.length > 60
  · rw [if_pos (by omega), if_pos h]
  · rw [if_neg (by omega), if_neg h]
    have e := spec_moves l (by omega) hs l.length 0 (by omega) [] (Nat.zero_le _) k (by omega)
    rw [List.drop_zero] at e
    exact e
theorem impl_movesText (l : List IMove) (hs : mvSmall l) (hl : l.length ≤ 1048576) : impl_MovesText.f l = some (movesV l) := by
  unfold impl_MovesText.f movesV
  rw [if_pos (by
    unfold impl_MovesText.ok
    simp only [Bool.and_eq_true, decide_eq_true_eq, List.all_eq_true]
    exact ⟨hl, hs⟩)]
theorem mconv_small {l : List LMove} (h : ∀ x ∈ l, moveSmall x) (hw : ∀ x ∈ l, (Go.Lit.int .i64 x.f2).wf = true) : mvSmall (l.map moveConv) := by
  intro x hx
  obtain ⟨y, hy, rfl⟩ := List.mem_map.1 hx
  have h1 := h y hy
  have h2 := hw y hy
  refine ⟨h1.1, h1.2, ?_⟩
  have : (decide (IntKind.i64.min ≤ y.f2) && decide (y.f2 ≤ IntKind.i64.max)) = true := h2
  simp only [Bool.and_eq_true, decide_eq_true_eq] at this
  exact this
theorem movesText_pure (l : List LMove) (hl1 : l.length * 40 ≤ 140737488351232) (hl2 : ∀ x ∈ l, x.f0.size ≤ 140737488351232 ∧ x.f1.size ≤ 140737488351232 ∧ (Go.Lit.int .i64 x.f2).wf = true) : ∃ k, laws_FnExactMovesText.f k l = some true := by
  refine ⟨l.length + 1052801, ?_⟩
  unfold laws_FnExactMovesText.f
  obtain ⟨r, hr, hq⟩ := szMoveS_tells l (by omega) (fun x hx => ⟨(hl2 x hx).1, (hl2 x hx).2.1⟩) 1048576 (by decide) (by decide) (l.length + 1052801) (by omega)
  rw [hr, Option.bind_some]
  by_cases c : r < 0
  · rw [if_pos c]
  obtain ⟨hn, hs⟩ := hq (by omega)
  have hm : (l.map moveConv).length = l.length := List.length_map _
  have hsm := mconv_small hs (fun x hx => (hl2 x hx).2.2)
  have e1 := toMoveS_tells l hn (l.length + 1052801) (by omega)
  have e2 := spec_movesText (l.map moveConv) hsm (by omega) (l.length + 1052801) (by omega)
  have e3 := impl_movesText (l.map moveConv) hsm (by omega)
  have e4 := eqMoveS_same (l.map moveConv) (by omega) (l.length + 1052801) (by omega)
  rw [if_neg c]
  simp only [e1, e2, e3, e4, Option.bind_some, if_true]
  unfold laws_eqTextResult.f
  rw [if_pos rfl, if_pos rfl, Option.bind_some, if_pos rfl]
end Go.Proofs.YtcapmfgamdiijaaDoorX
