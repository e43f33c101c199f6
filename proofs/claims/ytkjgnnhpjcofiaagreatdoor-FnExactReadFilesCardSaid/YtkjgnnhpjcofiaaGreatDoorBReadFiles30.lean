/- Texts of this claim set one behind another by wip/bundle.py: XTree, PXf97. -/
import Derived.Test.YtkjgnnhpjcofiaaGreatDoorBReadFiles14
import Derived.Test.YtkjgnnhpjcofiaaGreatDoorBReadFiles18
import Derived.Test.YtkjgnnhpjcofiaaGreatDoorBReadFiles7
import Derived.Lib.Hide
import Derived.StillTailTactics
namespace Go.Proofs.YtkjgnnhpjcofiaaGreatDoor.PX.X
open Go Go.RowKit Go.Lib Go.Proofs.YtkjgnnhpjcofiaaGreatDoorW.PrintWords
set_option linter.unusedVariables false
abbrev TE := S118
def lineB (x : TE) : ByteArray := (((((modeB x.f1 ++ (⟨#[32]⟩ : ByteArray)) ++ x.f2) ++ (⟨#[32]⟩ : ByteArray)) ++ x.f0) ++ (⟨#[10]⟩ : ByteArray))
def treeL (l : List TE) : List UInt8 := l.flatMap fun x => (lineB x).data.toList
theorem builder_below {T e : TypeId} {B b : Nat} {bs : List Value} {W W' : World} (h : Lib.IsBuilder T e B b bs W) (hb : Below W.heap.size W W') : Lib.IsBuilder T e B b bs W' := by
 have key : ∀ p, Lib.BuilderAt T e B b p bs W → Lib.BuilderAt T e B b p bs W' := by
  rintro p ⟨h1, v, h2, h3, h4⟩
  refine ⟨h1, v, blk_below h2 hb, ?_, h4⟩
  obtain ⟨hl, h5⟩ := h3
  refine ⟨hl, ?_⟩
  rcases h5 with h5 | ⟨g, cap, cur, h6, h7, h8, h9⟩
  · exact .inl h5
  · exact .inr ⟨g, cap, cur, h6, h7, blk_below h8 hb, h9⟩
 exact h.elim (fun z => .inl (key _ z)) (fun z => .inr (key _ z))
set_option maxHeartbeats 4000000 in
set_option maxRecDepth 8000 in
theorem treeText_calls (A0 : Option Addr) (c0 : Nat) (l0 : List TE) (w : World) (hr0 : Kd.C k118 w A0 l0.length l0) (hm : ∀ x ∈ l0, modeIn x.f1 = true) (hn : (treeL l0).length ≤ 140737488355328) (hbig : l0.length ≤ 9223372036854775807) :
 Calls Tryz.prog 97 #[.slice A0 l0.length c0] w fun e w' => e = .returned (.string ⟨(treeL l0).toArray⟩) ∧ Below w.heap.size w w' := by
 have HR := Lib.hid hr0
 have HM := Lib.hid hm
 have HN := Lib.hid hn
 clear hr0 hm hn
 go_enter Tryz.func97, Tryz.ntmps97
 go_wp2_with (first | ((with_reducible refine gate_dst (N := 3) rfl ?_); refine box_event ?hg (N := 3) ?hd (cs := #[.pointer none, .slice none 0 0]) (t := 171) ?hr ?_; (case hd => rfl); (case hg => rfl); (case hr => first | (go_simp; done) | (go_simp; rfl)); intro gb hgb w1 hbox hb1; have hcz0 : w1.cell? ⟨gb, 0, none⟩ = some (.pointer none) := (blk_cell hbox 0).trans rfl; have hcz1 : w1.cell? ⟨gb, 1, none⟩ = some (.slice none 0 0) := (blk_cell hbox 1).trans rfl; have hfz0 := blk_frozen hbox 0; have hfz1 := blk_frozen hbox 1; have HBX := Lib.hid hbox; have HB1 := Lib.hid hb1; have HGB := Lib.hid hgb; clear hbox hb1 hgb))
 have hB0 : w.heap.size ≤ gb := Nat.le_of_eq HGB.out.symm
 have hI0 : Lib.IsBuilder 171 5 w.heap.size gb (Lib.byteCells (treeL (l0.take 0))) ((w1.setCell ⟨gb, 0, none⟩ (.pointer none)).setCell ⟨gb, 1, none⟩ (.slice none 0 0)) := by
  refine .inl ⟨hB0, .slice none 0 0, ?_, World.ownsRow_nil _ _ _ _, by simp [Value.ownBlock]⟩
  exact blk_set (blk_set HBX.out 0 (.pointer none)) 1 (.slice none 0 0)
 have hW0 : Below w.heap.size w ((w1.setCell ⟨gb, 0, none⟩ (.pointer none)).setCell ⟨gb, 1, none⟩ (.slice none 0 0)) := below_set (below_set HB1.out hB0) hB0
 generalize ((w1.setCell ⟨gb, 0, none⟩ (.pointer none)).setCell ⟨gb, 1, none⟩ (.slice none 0 0)) = W0 at hI0 hW0 ⊢
 clear hcz0 hcz1 hfz0 hfz1
 clear HBX HB1
 go_loopg [9] l0.length (fun gg s9 wr => ∃ kk : Nat, kk ≤ l0.length ∧ l0.length - kk ≤ gg ∧ s9 = .int .i64 kk ∧ Aside (Below w.heap.size w wr) ∧ Aside (Lib.IsBuilder 171 5 w.heap.size gb (Lib.byteCells (treeL (l0.take kk))) wr))
 case atStart => exact ⟨0, Nat.zero_le _, by omega, rfl, hW0, hI0⟩
 case round =>
  obtain ⟨kk, hkk, hg, rfl, BW, AI⟩ := hrel
  clear hI0 hW0
  by_cases hlt : kk < l0.length
  · have hltz : (kk : Int) < (l0.length : Int) := by omega
    have hkz : (0 : Int) ≤ (kk : Int) := by omega
    obtain ⟨ad, rfl, q0, q1, q2⟩ := at_T118 HR.out (kk : Int) hkz hltz
    replace q0 := (BW.out.cell (World.block_lt_of_cell? w _ q0)).trans q0
    replace q1 := (BW.out.cell (World.block_lt_of_cell? w _ q1)).trans q1
    replace q2 := (BW.out.cell (World.block_lt_of_cell? w _ q2)).trans q2
    rw [Int.toNat_natCast] at q0 q1 q2
    have hx : rd_T118 l0 (kk : Int) = l0.getD kk z118 := by
     show l0.getD ((kk : Int)).toNat _ = _
     rw [Int.toNat_natCast]
    have hmem : l0.getD kk z118 ∈ l0 := by
     rw [List.getD_eq_getElem?_getD, List.getElem?_eq_getElem hlt, Option.getD_some]
     exact List.getElem_mem hlt
    have hmode := HM.out _ hmem
    have htake : treeL (l0.take (kk + 1)) = treeL (l0.take kk) ++ (lineB (l0.getD kk z118)).data.toList := by
     rw [List.take_succ_eq_append_getElem hlt, List.getD_eq_getElem?_getD, List.getElem?_eq_getElem hlt, Option.getD_some]
     unfold treeL
     rw [List.flatMap_append]
     simp
    have hle : (treeL (l0.take (kk + 1))).length ≤ 140737488355328 := by
     have h1 : treeL l0 = treeL (l0.take (kk + 1)) ++ treeL (l0.drop (kk + 1)) := by
      unfold treeL
      rw [← List.flatMap_append, List.take_append_drop]
     have h2 := HN.out
     rw [h1, List.length_append] at h2
     omega
    rw [hx] at q0 q1 q2
    have HT := Lib.hid htake
    have HL := Lib.hid hle
    have HMO := Lib.hid hmode
    clear hx hmem htake hle hmode
    generalize l0.getD kk z118 = y at q0 q1 q2 HT HMO
    go_wp2_with (first | ((with_reducible refine gate_dst (N := 5) rfl ?_); refine box_event ?hg (N := 5) ?hd (cs := #[.string (⟨#[]⟩ : ByteArray), .int .i64 0, .string (⟨#[]⟩ : ByteArray)]) (t := 118) ?hr ?_; (case hd => rfl); (case hg => rfl); (case hr => first | (go_simp; done) | (go_simp; rfl)); intro ge hge w2 hbox hb2; have hcz0 : w2.cell? ⟨ge, 0, none⟩ = some (.string (⟨#[]⟩ : ByteArray)) := (blk_cell hbox 0).trans rfl; have hcz1 : w2.cell? ⟨ge, 1, none⟩ = some (.int .i64 0) := (blk_cell hbox 1).trans rfl; have hcz2 : w2.cell? ⟨ge, 2, none⟩ = some (.string (⟨#[]⟩ : ByteArray)) := (blk_cell hbox 2).trans rfl; have hfz0 := blk_frozen hbox 0; have hfz1 := blk_frozen hbox 1; have hfz2 := blk_frozen hbox 2; have HB2 := Lib.hid hb2; have HGE := Lib.hid hge; have HRW := Lib.hid hbox; clear hbox hb2 hge))
    have hge : wr.heap.size ≤ ge := Nat.le_of_eq HGE.out.symm
    have hrow : (((w2.setCell ⟨ge, 0, none⟩ (.string y.f0)).setCell ⟨ge, 1, none⟩ (.int .i64 y.f1)).setCell ⟨ge, 2, none⟩ (.string y.f2)).heap[ge]? = some (.cells #[.string y.f0, .int .i64 y.f1, .string y.f2] 118 (0, 0)) := blk_set (blk_set (blk_set HRW.out 0 _) 1 _) 2 _
    have hbel : Below wr.heap.size wr (((w2.setCell ⟨ge, 0, none⟩ (.string y.f0)).setCell ⟨ge, 1, none⟩ (.int .i64 y.f1)).setCell ⟨ge, 2, none⟩ (.string y.f2)) := below_set (below_set (below_set HB2.out hge) hge) hge
    generalize (((w2.setCell ⟨ge, 0, none⟩ (.string y.f0)).setCell ⟨ge, 1, none⟩ (.int .i64 y.f1)).setCell ⟨ge, 2, none⟩ (.string y.f2)) = W2 at hrow hbel ⊢
    clear hcz0 hcz1 hcz2 hfz0 hfz1 hfz2 HRW HB2 q0 q1 q2
    have hc0 : W2.cell? ⟨ge, 0, none⟩ = some (.string y.f0) := (blk_cell hrow 0).trans rfl
    have hc1 : W2.cell? ⟨ge, 1, none⟩ = some (.int .i64 y.f1) := (blk_cell hrow 1).trans rfl
    have hc2 : W2.cell? ⟨ge, 2, none⟩ = some (.string y.f2) := (blk_cell hrow 2).trans rfl
    have hf0 := blk_frozen hrow 0
    have hf1 := blk_frozen hrow 1
    have hf2 := blk_frozen hrow 2
    have HBEL := Lib.hid hbel
    have hI : Lib.IsBuilder 171 5 w.heap.size gb (Lib.byteCells (treeL (l0.take kk))) W2 := builder_below AI.out hbel
    have HI := Lib.hid hI
    clear hbel hI hrow AI
    have hfit : (((((modeB y.f1 ++ (⟨#[32]⟩ : ByteArray)) ++ y.f2) ++ (⟨#[32]⟩ : ByteArray)) ++ y.f0) ++ (⟨#[10]⟩ : ByteArray)).size ≤ 140737488355328 := by
     have h1 := HL.out
     rw [HT.out, List.length_append] at h1
     have h2 : (lineB y).data.toList.length = (lineB y).size := Array.length_toList
     have h3 : lineB y = (((((modeB y.f1 ++ (⟨#[32]⟩ : ByteArray)) ++ y.f2) ++ (⟨#[32]⟩ : ByteArray)) ++ y.f0) ++ (⟨#[10]⟩ : ByteArray)) := rfl
     rw [← h3]
     omega
    have hsz := hfit
    simp only [ByteArray.size_append] at hsz
    have z1 : (⟨#[32]⟩ : ByteArray).size = 1 := rfl
    have z2 : (⟨#[10]⟩ : ByteArray).size = 1 := rfl
    have f1 : (9223372036854775807 < (modeB y.f1).size + 1) = False := eq_false zq7
    have f2 : (9223372036854775807 < (modeB y.f1).size + 1 + y.f2.size) = False := eq_false zq7
    have f3 : (9223372036854775807 < (modeB y.f1).size + 1 + y.f2.size + 1) = False := eq_false zq7
    have f4 : (9223372036854775807 < (modeB y.f1).size + 1 + y.f2.size + 1 + y.f0.size) = False := eq_false zq7
    have f5 : (9223372036854775807 < (modeB y.f1).size + 1 + y.f2.size + 1 + y.f0.size + 1) = False := eq_false zq7
    have HF := Lib.hid hfit
    have hmw := modeWord_calls y.f1 W2.drew HMO.out
    clear hsz z1 z2 hfit
    go_still_tail 12, zq3
    still_call hmw
    repeat still_step
    refine wpStill_nil ?_
    trace_state
    change wpList _ _ _ _ _ W2.drew
    have HI2 : Lib.IsBuilder 171 5 w.heap.size gb (Lib.byteCells (treeL (l0.take kk))) W2.drew := HI.out
    have BW2 : Below wr.heap.size wr W2.drew := HBEL.out.drew
    generalize W2.drew = W3 at HI2 BW2 ⊢
    have hs1 : (Lib.byteCells (treeL (l0.take kk))).length + (((((modeB y.f1 ++ (⟨#[32]⟩ : ByteArray)) ++ y.f2) ++ (⟨#[32]⟩ : ByteArray)) ++ y.f0) ++ (⟨#[10]⟩ : ByteArray)).size ≤ 140737488355328 := by
     have h1 := HL.out
     rw [HT.out, List.length_append] at h1
     have h2 : (lineB y).data.toList.length = (lineB y).size := Array.length_toList
     have h3 : lineB y = (((((modeB y.f1 ++ (⟨#[32]⟩ : ByteArray)) ++ y.f2) ++ (⟨#[32]⟩ : ByteArray)) ++ y.f0) ++ (⟨#[10]⟩ : ByteArray)) := rfl
     rw [← h3]
     unfold Lib.byteCells
     rw [List.length_map]
     omega
    have hs2 : w.heap.size ≤ W3.heap.size := Nat.le_trans BW.out.size BW2.size
    have HCA := Lib.hid (Tryz.writeString w.heap.size gb _ _ W3 HI2 hs1 hs2)
    have BW3 : Below w.heap.size w W3 := BW.out.trans (BW2.mono BW.out.size)
    have HB3 := Lib.hid BW3
    clear hs1 hs2 HI2 BW2 BW3 BW HBEL HF HI
    go_wp2_with (go_at_call 149; refine HCA.out.mono ?_; rintro e W4 ⟨rfl, hI4, hb4⟩)
    have hI5 : Lib.IsBuilder 171 5 w.heap.size gb (Lib.byteCells (treeL (l0.take (kk + 1)))) W4 := by
     have h3 : (((((modeB y.f1 ++ (⟨#[32]⟩ : ByteArray)) ++ y.f2) ++ (⟨#[32]⟩ : ByteArray)) ++ y.f0) ++ (⟨#[10]⟩ : ByteArray)) = lineB y := rfl
     rw [HT.out, show Lib.byteCells (treeL (l0.take kk) ++ (lineB y).data.toList) = Lib.byteCells (treeL (l0.take kk)) ++ Lib.strCells (lineB y) by rw [Lib.strCells_eq]; exact List.map_append]
     exact .inr hI4
    have hB5 : Below w.heap.size w W4 := HB3.out.trans hb4
    clear hI4 hb4 HB3 HCA hmw hc0 hc1 hc2 hf0 hf1 hf2 f1 f2 f3 f4 f5
    go_wp2
    go_roundg (l0.length - (kk + 1))
    case measure => omega
    case rel => exact ⟨kk + 1, by omega, by omega, by go_num, hB5, hI5⟩
  · have : kk = l0.length := by omega
    subst this
    have hltz : ¬ (l0.length : Int) < (l0.length : Int) := by omega
    have e0 : l0.take l0.length = l0 := List.take_length
    have hI := AI.out
    rw [e0] at hI
    have HCA := Lib.hid (Tryz.stringOf w.heap.size gb (treeL l0) wr hI (Nat.le_trans (Nat.le_refl _) BW.out.size))
    clear hI AI
    go_wp2_with (go_at_call 151; refine HCA.out.mono ?_; rintro e W4 ⟨rfl, hb4⟩)
    go_ret
    exact ⟨rfl, BW.out.trans hb4⟩
end Go.Proofs.YtkjgnnhpjcofiaaGreatDoor.PX.X

namespace Go.Proofs.YtkjgnnhpjcofiaaGreatDoor.PX
open Go.RowKit Go.Proofs.YtkjgnnhpjcofiaaGreatDoorW.PrintWords Go.Proofs.YtkjgnnhpjcofiaaGreatDoorW.PrintLast Go.Proofs.YtkjgnnhpjcofiaaGreatDoorW.PrintMore
attribute [local go_sem] max2_int min2_int max_two min_two max_three min_three max_four min_four   -- for this text's walks alone
set_option linter.unusedVariables false
set_option linter.unusedSimpArgs false
def impl_treeText.ok (l0 : List X.TE) : Bool := decide ((X.treeL l0).length ≤ 140737488355328) && (decide (l0.length ≤ 9223372036854775807) && l0.all fun x => X.modeIn x.f1)
def impl_treeText.f (l0 : List X.TE) : Option ByteArray := if impl_treeText.ok l0 = true then some ⟨(X.treeL l0).toArray⟩ else none
theorem impl_treeText.calls (A0 : Option Addr) (c0 : Nat) (l0 : List X.TE) (r : ByteArray) (w : World) (hr0 : Kd.C k118 w A0 l0.length l0) (hc0 : l0.length ≤ c0) (h : impl_treeText.f l0 = some r) :
  Calls Tryz.prog 97 #[.slice A0 l0.length c0] w fun e w' => e = .returned (.string r) ∧ Below w.heap.size w w' := by
 unfold impl_treeText.f at h
 by_cases hk : impl_treeText.ok l0 = true
 ·
  rw [if_pos hk] at h
  obtain rfl := Option.some.inj h
  unfold impl_treeText.ok at hk
  simp only [Bool.and_eq_true, decide_eq_true_eq, List.all_eq_true] at hk
  exact X.treeText_calls A0 c0 l0 w hr0 hk.2.2 hk.1 hk.2.1
 rw [if_neg hk] at h
 cases h
end Go.Proofs.YtkjgnnhpjcofiaaGreatDoor.PX
