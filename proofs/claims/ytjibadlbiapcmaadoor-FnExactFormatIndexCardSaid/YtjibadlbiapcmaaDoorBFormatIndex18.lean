/- Texts of this claim set one behind another by wip/bundle.py: XEntText, PXf63. -/
import Derived.Test.YtjibadlbiapcmaaDoorBFormatIndex12
import Derived.Test.YtjibadlbiapcmaaDoorBFormatIndex4
import Derived.Deep.RegionHeld3
import Derived.Shelf.Strings.BuilderK
import Derived.Shelf.Strings.MapGrows
import Derived.Test.YtjibadlbiapcmaaDoorBFormatIndex13
import Derived.Test.YtjibadlbiapcmaaDoorBFormatIndex16
import Derived.Test.YtjibadlbiapcmaaDoorBFormatIndex5
import Derived.Test.YtjibadlbiapcmaaDoorBFormatIndex10
namespace Go.Proofs.YtjibadlbiapcmaaDoor.PX.X
open Go Go.RowKit Go.Lib Go.Proofs.YtjibadlbiapcmaaDoorW.PrintWords Go.Proofs.YtjibadlbiapcmaaDoor.PX
set_option linter.unusedVariables false
set_option linter.unusedSimpArgs false
abbrev TXE := S80
def stB (n : Int) : ByteArray := ⟨(Lib.itoa n).toArray⟩
def lineE (x : TXE) : ByteArray := (((((((stB x.f1 ++ (⟨#[32]⟩ : ByteArray)) ++ modeB x.f2) ++ (⟨#[32]⟩ : ByteArray)) ++ x.f3) ++ (⟨#[32]⟩ : ByteArray)) ++ x.f0) ++ (⟨#[10]⟩ : ByteArray))
def entL (l : List TXE) : List UInt8 := l.flatMap fun x => (lineE x).data.toList
def entIn (x : TXE) : Bool := modeIn x.f2 && (decide (0 ≤ x.f1) && decide (x.f1 ≤ 1000))
open Go.Proofs in
theorem writeStringE (B b : Nat) (bs : List Value) (s : ByteArray) (w : World) (h : Lib.IsBuilderF 136 5 B b bs w) (hlen : bs.length + s.size ≤ 140737488355328) (hBw : B ≤ w.heap.size) :
    Calls Tryd.prog 111 #[.pointer (some ⟨b, 0, none⟩), .string s] w fun e w' => e = .returned (.tuple #[.int .i64 s.size, .nilIface]) ∧ (Lib.BuilderAtF 136 5 B b (.pointer (some ⟨b, 0, none⟩)) (bs ++ Lib.strCells s) w' ∧ Below B w w' ∧ Lib.OthersKept 5 (some b) w w') :=
  Any.Builder_WriteString_k Tryd.lays166 Tryd.Builder_Extra_166 B b bs s w h hlen hBw
open Go.Proofs in
theorem stringOfE (B b : Nat) (l : List UInt8) (w : World) (h : Lib.IsBuilderF 136 5 B b (Lib.byteCells l) w) (hBw : B ≤ w.heap.size) :
    Calls Tryd.prog 114 #[.pointer (some ⟨b, 0, none⟩)] w fun e w' => e = .returned (.string ⟨l.toArray⟩) ∧ Below B w w' :=
  (Any.Builder_String_any_k Tryd.lays169 Tryd.Builder_Extra_169 B b l w h hBw).mono fun e w' h => ⟨h.1, h.2.2.1⟩
theorem e4_of {ge : Nat} {a d : ByteArray} {b c : Int} {w' : World} (h : w'.heap[ge]? = some (.cells #[.string a, .int .i64 b, .int .i64 c, .string d] 80 (0, 0))) : w'.cell? ⟨ge, 0, none⟩ = some (.string a) ∧ w'.cell? ⟨ge, 1, none⟩ = some (.int .i64 b) ∧ w'.cell? ⟨ge, 2, none⟩ = some (.int .i64 c) ∧ w'.cell? ⟨ge, 3, none⟩ = some (.string d) ∧ w'.heap[ge]? = some (.cells #[.string a, .int .i64 b, .int .i64 c, .string d] 80 (0, 0)) :=
  ⟨(blk_cell h 0).trans rfl, (blk_cell h 1).trans rfl, (blk_cell h 2).trans rfl, (blk_cell h 3).trans rfl, h⟩
theorem e4_below {ge : Nat} {a d : ByteArray} {b c : Int} {w' w'' : World} (h : w'.cell? ⟨ge, 0, none⟩ = some (.string a) ∧ w'.cell? ⟨ge, 1, none⟩ = some (.int .i64 b) ∧ w'.cell? ⟨ge, 2, none⟩ = some (.int .i64 c) ∧ w'.cell? ⟨ge, 3, none⟩ = some (.string d) ∧ w'.heap[ge]? = some (.cells #[.string a, .int .i64 b, .int .i64 c, .string d] 80 (0, 0))) (hb : Below w'.heap.size w' w'') : w''.cell? ⟨ge, 0, none⟩ = some (.string a) ∧ w''.cell? ⟨ge, 1, none⟩ = some (.int .i64 b) ∧ w''.cell? ⟨ge, 2, none⟩ = some (.int .i64 c) ∧ w''.cell? ⟨ge, 3, none⟩ = some (.string d) ∧ w''.heap[ge]? = some (.cells #[.string a, .int .i64 b, .int .i64 c, .string d] 80 (0, 0)) :=
  e4_of (blk_below h.2.2.2.2 hb)
theorem e4_others {ge gb : Nat} {a d : ByteArray} {b c : Int} {w' w'' : World} (h : w'.cell? ⟨ge, 0, none⟩ = some (.string a) ∧ w'.cell? ⟨ge, 1, none⟩ = some (.int .i64 b) ∧ w'.cell? ⟨ge, 2, none⟩ = some (.int .i64 c) ∧ w'.cell? ⟨ge, 3, none⟩ = some (.string d) ∧ w'.heap[ge]? = some (.cells #[.string a, .int .i64 b, .int .i64 c, .string d] 80 (0, 0))) (hne : ge ≠ gb) (hok : Lib.OthersKept 5 (some gb) w' w'') : w''.cell? ⟨ge, 0, none⟩ = some (.string a) ∧ w''.cell? ⟨ge, 1, none⟩ = some (.int .i64 b) ∧ w''.cell? ⟨ge, 2, none⟩ = some (.int .i64 c) ∧ w''.cell? ⟨ge, 3, none⟩ = some (.string d) ∧ w''.heap[ge]? = some (.cells #[.string a, .int .i64 b, .int .i64 c, .string d] 80 (0, 0)) :=
  e4_of (hok ge _ h.2.2.2.2 (fun e => hne (Option.some.inj e)) (fun c fz e => by injection e with _ e2 _; exact absurd e2 (by decide)))
set_option maxHeartbeats 2000000 in
set_option maxRecDepth 8000 in
theorem entriesText_calls (A0 : Option Addr) (c0 : Nat) (l0 : List TXE) (w : World) (hr0 : Kd.C k80 w A0 l0.length l0) (hG : Gt w) (hm : ∀ x ∈ l0, entIn x = true) (hn : (entL l0).length ≤ 140737488355328) (hbig : l0.length ≤ 1048576) :
    Calls Tryd.prog 63 #[.slice A0 l0.length c0] w fun e w' => e = .returned (.string ⟨(entL l0).toArray⟩) ∧ Below w.heap.size w w' := by
  have HR := Lib.hid hr0
  have HM := Lib.hid hm
  have HN := Lib.hid hn
  have HG := Lib.hid hG
  clear hr0 hm hn hG
  go_enter Tryd.func63, Tryd.ntmps63
  go_wp2_with (first | ((with_reducible refine gate_dst (N := 3) rfl ?_); refine box_event ?hg (N := 3) ?hd (cs := #[.pointer none, .slice none 0 0]) (t := 136) ?hr ?_; (case hd => rfl); (case hg => rfl); (case hr => first | (go_simp; done) | (go_simp; rfl)); intro gb hgb w1 hbox hb1; have hcz0 : w1.cell? ⟨gb, 0, none⟩ = some (.pointer none) := (blk_cell hbox 0).trans rfl; have hcz1 : w1.cell? ⟨gb, 1, none⟩ = some (.slice none 0 0) := (blk_cell hbox 1).trans rfl; have hfz0 := blk_frozen hbox 0; have hfz1 := blk_frozen hbox 1; have HBX := Lib.hid hbox; have HB1 := Lib.hid hb1; have HGB := Lib.hid hgb; clear hbox hb1 hgb))
  have hB0 : w.heap.size ≤ gb := Nat.le_of_eq HGB.out.symm
  have hI0 : Lib.IsBuilderF 136 5 w.heap.size gb (Lib.byteCells (entL (l0.take 0))) ((w1.setCell ⟨gb, 0, none⟩ (.pointer none)).setCell ⟨gb, 1, none⟩ (.slice none 0 0)) := by
    refine Lib.IsBuilderF.of (.inl ⟨hB0, .slice none 0 0, ?_, World.ownsRow_nil _ _ _ _, by simp [Value.ownBlock]⟩)
    exact blk_set (blk_set HBX.out 0 (.pointer none)) 1 (.slice none 0 0)
  have hW0 : Below w.heap.size w ((w1.setCell ⟨gb, 0, none⟩ (.pointer none)).setCell ⟨gb, 1, none⟩ (.slice none 0 0)) := below_set (below_set HB1.out hB0) hB0
  generalize ((w1.setCell ⟨gb, 0, none⟩ (.pointer none)).setCell ⟨gb, 1, none⟩ (.slice none 0 0)) = W0 at hI0 hW0 ⊢
  clear hcz0 hcz1 hfz0 hfz1
  clear HBX HB1
  go_loopg [9] l0.length (fun gg s9 wr => ∃ kk : Nat, kk ≤ l0.length ∧ l0.length - kk ≤ gg ∧ s9 = .int .i64 kk ∧ Aside (Below w.heap.size w wr) ∧ Aside (Lib.IsBuilderF 136 5 w.heap.size gb (Lib.byteCells (entL (l0.take kk))) wr))
  case atStart => exact ⟨0, Nat.zero_le _, by omega, rfl, hW0, hI0⟩
  case round =>
    obtain ⟨kk, hkk, hg, rfl, BW, AI⟩ := hrel
    clear hI0 hW0
    by_cases hlt : kk < l0.length
    · have hltz : (kk : Int) < (l0.length : Int) := by omega
      have hkz : (0 : Int) ≤ (kk : Int) := by omega
      obtain ⟨ad, rfl, q0, q1, q2, q3⟩ := at_T80 HR.out (kk : Int) hkz hltz
      replace q0 := (BW.out.cell (World.block_lt_of_cell? w _ q0)).trans q0
      replace q1 := (BW.out.cell (World.block_lt_of_cell? w _ q1)).trans q1
      replace q2 := (BW.out.cell (World.block_lt_of_cell? w _ q2)).trans q2
      replace q3 := (BW.out.cell (World.block_lt_of_cell? w _ q3)).trans q3
      rw [Int.toNat_natCast] at q0 q1 q2 q3
      have hx : rd_T80 l0 (kk : Int) = l0[kk] := by
        show l0.getD ((kk : Int)).toNat _ = _
        rw [Int.toNat_natCast, List.getD_eq_getElem?_getD, List.getElem?_eq_getElem hlt, Option.getD_some]
      have hmode := HM.out _ (List.getElem_mem hlt)
      have htake : entL (l0.take (kk + 1)) = entL (l0.take kk) ++ (lineE l0[kk]).data.toList := by
        rw [List.take_succ_eq_append_getElem hlt]
        unfold entL
        rw [List.flatMap_append]
        simp
      have hle : (entL (l0.take (kk + 1))).length ≤ 140737488355328 := by
        have h1 : entL l0 = entL (l0.take (kk + 1)) ++ entL (l0.drop (kk + 1)) := by
          unfold entL
          rw [← List.flatMap_append, List.take_append_drop]
        have h2 := HN.out
        rw [h1, List.length_append] at h2
        omega
      rw [hx] at q0 q1 q2 q3
      have HGW : Gt wr := HG.out.below BW.out
      have HT := Lib.hid htake
      have HL := Lib.hid hle
      have HMO := Lib.hid hmode
      have HGR := Lib.hid HGW
      clear hx htake hle hmode HGW
      generalize l0[kk] = y at q0 q1 q2 q3 HT HMO
      go_wp2_with (first | ((with_reducible refine gate_dst (N := 5) rfl ?_); refine box_event ?hg (N := 5) ?hd (cs := #[.string (⟨#[]⟩ : ByteArray), .int .i64 0, .int .i64 0, .string (⟨#[]⟩ : ByteArray)]) (t := 80) ?hr ?_; (case hd => rfl); (case hg => rfl); (case hr => first | (go_simp; done) | (go_simp; rfl)); intro ge hge w2 hbox hb2; have hcz0 : w2.cell? ⟨ge, 0, none⟩ = some (.string (⟨#[]⟩ : ByteArray)) := (blk_cell hbox 0).trans rfl; have hcz1 : w2.cell? ⟨ge, 1, none⟩ = some (.int .i64 0) := (blk_cell hbox 1).trans rfl; have hcz2 : w2.cell? ⟨ge, 2, none⟩ = some (.int .i64 0) := (blk_cell hbox 2).trans rfl; have hcz3 : w2.cell? ⟨ge, 3, none⟩ = some (.string (⟨#[]⟩ : ByteArray)) := (blk_cell hbox 3).trans rfl; have hfz0 := blk_frozen hbox 0; have hfz1 := blk_frozen hbox 1; have hfz2 := blk_frozen hbox 2; have hfz3 := blk_frozen hbox 3; have HB2 := Lib.hid hb2; have HGE := Lib.hid hge; have HRW := Lib.hid hbox; clear hbox hb2 hge))
      have hge : wr.heap.size ≤ ge := Nat.le_of_eq HGE.out.symm
      have hrow : ((((w2.setCell ⟨ge, 0, none⟩ (.string y.f0)).setCell ⟨ge, 1, none⟩ (.int .i64 y.f1)).setCell ⟨ge, 2, none⟩ (.int .i64 y.f2)).setCell ⟨ge, 3, none⟩ (.string y.f3)).heap[ge]? = some (.cells #[.string y.f0, .int .i64 y.f1, .int .i64 y.f2, .string y.f3] 80 (0, 0)) := blk_set (blk_set (blk_set (blk_set HRW.out 0 _) 1 _) 2 _) 3 _
      have hbel : Below wr.heap.size wr ((((w2.setCell ⟨ge, 0, none⟩ (.string y.f0)).setCell ⟨ge, 1, none⟩ (.int .i64 y.f1)).setCell ⟨ge, 2, none⟩ (.int .i64 y.f2)).setCell ⟨ge, 3, none⟩ (.string y.f3)) := below_set (below_set (below_set (below_set HB2.out hge) hge) hge) hge
      generalize ((((w2.setCell ⟨ge, 0, none⟩ (.string y.f0)).setCell ⟨ge, 1, none⟩ (.int .i64 y.f1)).setCell ⟨ge, 2, none⟩ (.int .i64 y.f2)).setCell ⟨ge, 3, none⟩ (.string y.f3)) = W3 at hrow hbel ⊢
      clear hcz0 hcz1 hcz2 hcz3 hfz0 hfz1 hfz2 hfz3 HRW HB2 q0 q1 q2 q3
      have RO3 := Lib.hid hrow
      have RI3 := Lib.hid (show Lib.IsBuilderF 136 5 w.heap.size gb (Lib.byteCells (entL (l0.take kk))) W3 from AI.out.below hbel)
      have RW3 := Lib.hid (show Below w.heap.size w W3 from BW.out.trans (hbel.mono BW.out.size))
      have RG3 := Lib.hid (show Gt W3 from HGR.out.below hbel)
      clear hrow hbel AI BW HGR
      have hmo := HMO.out
      unfold entIn at hmo
      simp only [Bool.and_eq_true, decide_eq_true_eq] at hmo
      obtain ⟨hm1, hm2, hm3⟩ := hmo
      have HMI := Lib.hid hm1
      have hdec : impl_decimal.f y.f1 = some (stB y.f1) := by
        unfold impl_decimal.f strconv_FormatInt_155.f
        rw [if_pos rfl, if_pos (by omega), if_pos (by omega)]
        rfl
      have RDEC := Lib.hid hdec
      clear hdec hm1 hm2 hm3 HMO
      have hfit : (lineE y).size ≤ 140737488355328 := by
        have h1 := HL.out
        rw [HT.out, List.length_append] at h1
        have h2 : (lineE y).data.toList.length = (lineE y).size := Array.length_toList
        omega
      have hs1 : (Lib.byteCells (entL (l0.take kk))).length + (lineE y).size ≤ 140737488355328 := by
        have h1 := HL.out
        rw [HT.out, List.length_append] at h1
        have h2 : (lineE y).data.toList.length = (lineE y).size := Array.length_toList
        unfold Lib.byteCells
        rw [List.length_map]
        omega
      have hle2 : lineE y = (((((((stB y.f1 ++ (⟨#[32]⟩ : ByteArray)) ++ modeB y.f2) ++ (⟨#[32]⟩ : ByteArray)) ++ y.f3) ++ (⟨#[32]⟩ : ByteArray)) ++ y.f0) ++ (⟨#[10]⟩ : ByteArray)) := rfl
      have RLE := Lib.hid hle2
      generalize stB y.f1 = ts at RDEC RLE hle2
      have hsz := hfit
      rw [hle2] at hsz hs1
      simp only [ByteArray.size_append] at hsz
      have z1 : (⟨#[32]⟩ : ByteArray).size = 1 := rfl
      have z2 : (⟨#[10]⟩ : ByteArray).size = 1 := rfl
      have f1 : (9223372036854775807 < ts.size + 1) = False := eq_false (by omega)
      have f2 : (9223372036854775807 < ts.size + 1 + (modeB y.f2).size) = False := eq_false (by omega)
      have f3 : (9223372036854775807 < ts.size + 1 + (modeB y.f2).size + 1) = False := eq_false (by omega)
      have f4 : (9223372036854775807 < ts.size + 1 + (modeB y.f2).size + 1 + y.f3.size) = False := eq_false (by omega)
      have f5 : (9223372036854775807 < ts.size + 1 + (modeB y.f2).size + 1 + y.f3.size + 1) = False := eq_false (by omega)
      have f6 : (9223372036854775807 < ts.size + 1 + (modeB y.f2).size + 1 + y.f3.size + 1 + y.f0.size) = False := eq_false (by omega)
      have f7 : (9223372036854775807 < ts.size + 1 + (modeB y.f2).size + 1 + y.f3.size + 1 + y.f0.size + 1) = False := eq_false (by omega)
      have RS1 := Lib.hid hs1
      have hge3 : ge ≠ gb := by
        intro e
        rcases RI3.out with z | z
        · obtain ⟨_, v, hv, _⟩ := z
          rw [← e, RO3.out] at hv
          injection hv with hv
          injection hv with _ hv _
          exact absurd hv (by decide)
        · obtain ⟨_, v, hv, _⟩ := z
          rw [← e, RO3.out] at hv
          injection hv with hv
          injection hv with _ hv _
          exact absurd hv (by decide)
      clear hfit hs1 hle2 hsz z1 z2
      have hK1 : W3.drew.cell? ⟨ge, 0, none⟩ = some (.string y.f0) ∧ W3.drew.cell? ⟨ge, 1, none⟩ = some (.int .i64 y.f1) ∧ W3.drew.cell? ⟨ge, 2, none⟩ = some (.int .i64 y.f2) ∧ W3.drew.cell? ⟨ge, 3, none⟩ = some (.string y.f3) ∧ W3.drew.heap[ge]? = some (.cells #[.string y.f0, .int .i64 y.f1, .int .i64 y.f2, .string y.f3] 80 (0, 0)) := e4_of RO3.out
      have hBD : Below W3.heap.size W3 W3.drew := below_drew1 (Below.refl _ _)
      go_region_held3 (fun w' => (w'.cell? ⟨ge, 0, none⟩ = some (.string y.f0) ∧ w'.cell? ⟨ge, 1, none⟩ = some (.int .i64 y.f1) ∧ w'.cell? ⟨ge, 2, none⟩ = some (.int .i64 y.f2) ∧ w'.cell? ⟨ge, 3, none⟩ = some (.string y.f3) ∧ w'.heap[ge]? = some (.cells #[.string y.f0, .int .i64 y.f1, .int .i64 y.f2, .string y.f3] 80 (0, 0)))) (with_reducible first | assumption | (refine e4_below ?_ hb; assumption) | (refine e4_others ?_ hge3 hok; assumption))
        (first
          | (go_at_call 112; refine (impl_decimal.calls y.f1 _ _ (RG3.out.below hBD) RDEC.out).mono ?_; rintro e w' ⟨rfl, hb⟩; replace hBD := below_step hBD hb)
          | (go_at_call 113; refine (modeWord_calls y.f2 _ HMI.out).mono ?_; rintro e w' ⟨rfl, rfl⟩)
          | (go_at_call 111; refine (writeStringE w.heap.size gb _ _ _ (RI3.out.below hBD) RS1.out (Nat.le_trans RW3.out.size hBD.size)).mono ?_; rintro e w'' ⟨rfl, hI, hbw, hok⟩))
      have hI5 : Lib.IsBuilderF 136 5 w.heap.size gb (Lib.byteCells (entL (l0.take (kk + 1)))) w'' := by
        rw [HT.out, RLE.out, show Lib.byteCells (entL (l0.take kk) ++ (((((((ts ++ (⟨#[32]⟩ : ByteArray)) ++ modeB y.f2) ++ (⟨#[32]⟩ : ByteArray)) ++ y.f3) ++ (⟨#[32]⟩ : ByteArray)) ++ y.f0) ++ (⟨#[10]⟩ : ByteArray)).data.toList) = Lib.byteCells (entL (l0.take kk)) ++ Lib.strCells (((((((ts ++ (⟨#[32]⟩ : ByteArray)) ++ modeB y.f2) ++ (⟨#[32]⟩ : ByteArray)) ++ y.f3) ++ (⟨#[32]⟩ : ByteArray)) ++ y.f0) ++ (⟨#[10]⟩ : ByteArray)) by rw [Lib.strCells_eq]; exact List.map_append]
        exact .inr hI
      have hB5 : Below w.heap.size w w'' := (RW3.out.trans (hBD.mono RW3.out.size)).trans hbw
      clear hI hbw hok hb hBD hK1 hge3 RS1 RDEC RLE RI3 RW3 RG3 RO3 f1 f2 f3 f4 f5 f6 f7
      go_wp2
      go_roundg (l0.length - (kk + 1))
      case measure => omega
      case rel => exact ⟨kk + 1, by omega, by omega, by go_num, hB5, hI5⟩
    · have : kk = l0.length := by omega
      subst this
      have hltz : ¬ (l0.length : Int) < (l0.length : Int) := by omega
      have e0 : l0.take l0.length = l0 := List.take_length
      have hI := AI.out
      rw [e0] at hI
      have HCA := Lib.hid (stringOfE w.heap.size gb (entL l0) wr hI BW.out.size)
      clear hI AI
      go_wp2_with (go_at_call 114; refine HCA.out.mono ?_; rintro e W4 ⟨rfl, hb4⟩)
      go_ret
      exact ⟨rfl, BW.out.trans hb4⟩
end Go.Proofs.YtjibadlbiapcmaaDoor.PX.X

namespace Go.Proofs.YtjibadlbiapcmaaDoor.PX
open Go.RowKit Go.Proofs.YtjibadlbiapcmaaDoorW.PrintWords Go.Proofs.YtjibadlbiapcmaaDoorW.PrintLast Go.Proofs.YtjibadlbiapcmaaDoorW.PrintMore
attribute [local go_sem] max2_int min2_int max_two min_two max_three min_three max_four min_four   -- for this text's walks alone
set_option linter.unusedVariables false
set_option linter.unusedSimpArgs false

/-! ### impl_entriesText: function 63 -/
def impl_entriesText.ok (l0 : List X.TXE) : Bool := decide ((X.entL l0).length ≤ 140737488355328) && (decide (l0.length ≤ 1048576) && l0.all X.entIn)
def impl_entriesText.f (l0 : List X.TXE) : Option ByteArray := if impl_entriesText.ok l0 = true then some ⟨(X.entL l0).toArray⟩ else none
theorem impl_entriesText.calls (A0 : Option Addr) (c0 : Nat) (l0 : List X.TXE) (r : ByteArray) (w : World) (hr0 : Kd.C k80 w A0 l0.length l0) (hc0 : l0.length ≤ c0) (hG : Gt w) (h : impl_entriesText.f l0 = some r) :
  Calls Tryd.prog 63 #[.slice A0 l0.length c0] w fun e w' => e = .returned (.string r) ∧ Below w.heap.size w w' := by
 unfold impl_entriesText.f at h
 by_cases hk : impl_entriesText.ok l0 = true
 ·
  rw [if_pos hk] at h
  obtain rfl := Option.some.inj h
  unfold impl_entriesText.ok at hk
  simp only [Bool.and_eq_true, decide_eq_true_eq, List.all_eq_true] at hk
  exact X.entriesText_calls A0 c0 l0 w hr0 hG hk.2.2 hk.1 hk.2.1
 ·
  rw [if_neg hk] at h
  cases h

end Go.Proofs.YtjibadlbiapcmaaDoor.PX
