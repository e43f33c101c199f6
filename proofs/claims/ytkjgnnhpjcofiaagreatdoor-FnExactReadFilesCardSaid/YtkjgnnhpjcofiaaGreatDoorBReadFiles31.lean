/- Texts of this claim set one behind another by wip/bundle.py: XHex. -/
import Derived.Test.YtkjgnnhpjcofiaaGreatDoorBReadFiles8
import Derived.Test.YtkjgnnhpjcofiaaGreatDoorBReadFiles1
import Derived.Test.YtkjgnnhpjcofiaaGreatDoorBReadFiles9
import Derived.Laws.Bits64b
import Derived.Lib.Hide
namespace Go.Proofs.YtkjgnnhpjcofiaaGreatDoor.PX.X
open Go Go.RowKit Go.Lib Go.Proofs.YtkjgnnhpjcofiaaGreatDoorW.PrintWords Go.Proofs.YtkjgnnhpjcofiaaGreatDoor.PX
set_option linter.unusedVariables false
set_option linter.unusedSimpArgs false
theorem pow2_calls (w : World) : Calls Tryz.prog 269 #[.int .i64 16] w fun e w' => e = .returned (.bool true) ∧ w = w' := by
 have hb : bits .and .i64 16 15 = 0 := by decide
 go_enter Tryz.func269, Tryz.ntmps269
 go_wp2
 go_ret
 exact ⟨rfl, rfl⟩
theorem tz64_calls (w : World) (hG : Gt w) : Calls Tryz.prog 292 #[.int .u64 16] w fun e w' => e = .returned (.int .i64 4) ∧ w = w' := by
 have hc := hG.four
 have hb : IntKind.u64.wrap (-16) = 18446744073709551600 := by decide
 have hb2 : bits .and .u64 16 18446744073709551600 = 16 := by decide
 clear hG
 go_enter Tryz.func292, Tryz.ntmps292
 go_wp2
 go_ret
 exact ⟨rfl, rfl⟩
theorem tz_calls (w : World) (hG : Gt w) : Calls Tryz.prog 270 #[.int .u64 16] w fun e w' => e = .returned (.int .i64 4) ∧ w = w' := by
 have HT := Lib.hid (tz64_calls w hG)
 clear hG
 go_enter Tryz.func270, Tryz.ntmps270
 go_wp2_with (go_at_call 292; (with_reducible refine HT.out.mono ?_); rintro e w' ⟨rfl, rfl⟩)
 go_ret
 exact ⟨rfl, rfl⟩
theorem dig_at (d : Nat) (h : d < (⟨#[48, 49, 50, 51, 52, 53, 54, 55, 56, 57, 97, 98, 99, 100, 101, 102, 103, 104, 105, 106, 107, 108, 109, 110, 111, 112, 113, 114, 115, 116, 117, 118, 119, 120, 121, 122]⟩ : ByteArray).size) (h16 : d < 16) : ((⟨#[48, 49, 50, 51, 52, 53, 54, 55, 56, 57, 97, 98, 99, 100, 101, 102, 103, 104, 105, 106, 107, 108, 109, 110, 111, 112, 113, 114, 115, 116, 117, 118, 119, 120, 121, 122]⟩ : ByteArray)[d]'h).toNat = (hexD d).toNat := by
 match d, h16 with
 | 0, _ => rfl
 | 1, _ => rfl
 | 2, _ => rfl
 | 3, _ => rfl
 | 4, _ => rfl
 | 5, _ => rfl
 | 6, _ => rfl
 | 7, _ => rfl
 | 8, _ => rfl
 | 9, _ => rfl
 | 10, _ => rfl
 | 11, _ => rfl
 | 12, _ => rfl
 | 13, _ => rfl
 | 14, _ => rfl
 | 15, _ => rfl
 | n + 16, h => omega
theorem nums_back (ds : List UInt8) : strOfNums (ds.map fun d => (d.toNat : Int)) = ⟨ds.toArray⟩ := by
 unfold strOfNums
 rw [List.map_map, show ((fun n : Int => UInt8.ofNat n.toNat) ∘ fun d : UInt8 => (d.toNat : Int)) = id from by funext d; simp, List.map_id]
def hexRow (ds : List UInt8) : List Value := List.replicate (65 - ds.length) (.int .u8 0) ++ ds.map fun d => .int .u8 (d.toNat : Int)
theorem hexRow_len (ds : List UInt8) (h : ds.length ≤ 65) : (hexRow ds).length = 65 := by
 unfold hexRow
 rw [List.length_append, List.length_replicate, List.length_map]
 omega
theorem hexRow_set (ds : List UInt8) (d : UInt8) (h : ds.length < 65) : (hexRow ds).set (64 - ds.length) (.int .u8 (d.toNat : Int)) = hexRow (d :: ds) := by
 unfold hexRow
 rw [List.length_cons, show 65 - ds.length = (64 - ds.length) + 1 from by omega, List.replicate_succ', List.append_assoc, List.set_append_right _ _ (by rw [List.length_replicate]; exact Nat.le_refl _), List.length_replicate, Nat.sub_self]
 rw [show 65 - (ds.length + 1) = 64 - ds.length from by omega]
 rfl
set_option maxHeartbeats 2000000 in
set_option maxRecDepth 100000 in
theorem bits_calls (u : Nat) (hu : u < 65536) (w : World) (hG : Gt w) :
 Calls Tryz.prog 230 #[.slice none 0 0, .int .u64 u, .int .i64 16, .bool false, .bool false] w fun e w' => e = .returned (.tuple #[.slice none 0 0, .string ⟨(hexL u).toArray⟩]) ∧ Below w.heap.size w w' := by
 have HG := Lib.hid hG
 have HU := Lib.hid hu
 clear hG
 go_enter Tryz.func230, Tryz.ntmps230
 go_wp2_with (first | ((with_reducible refine gate_dst (N := 12) rfl ?_); refine box_event ?hg (N := 12) ?hd (cs := Tryz.zeroCells262) (t := 262) ?hr ?_; (case hd => rfl); (case hg => rfl); (case hr => first | (go_simp; done) | (go_simp; rfl)); intro ga hga w1 hbox hb1; have HS := Lib.hid hbox; have HB1 := Lib.hid hb1; have HGA := Lib.hid hga; clear hbox hb1 hga) | (go_at_call 269; (with_reducible refine (pow2_calls _).mono ?_); rintro e w' ⟨rfl, rfl⟩) | (go_at_call 270; (with_reducible refine (tz_calls _ (HG.out.below HB1.out)).mono ?_); rintro e w' ⟨rfl, rfl⟩))
 go_loopg [1, 13] 4 (fun gg s1 s13 wr => ∃ (uu ii f : Nat) (ds : List UInt8), s1 = .int .u64 uu ∧ s13 = .int .i64 ii ∧ ii + ds.length = 65 ∧ f + ds.length = 3 ∧ f ≤ gg ∧ Aside (uu < 16 ^ (f + 1)) ∧ Aside (hexF f uu ++ ds = hexL u) ∧ Aside (wr.heap[ga]? = some (.cells (hexRow ds).toArray 262 (0, 0))) ∧ Aside (Below w.heap.size w wr))
 case atStart => exact ⟨u, 65, 3, [], rfl, rfl, rfl, rfl, by decide, (show u < 16 ^ 4 by omega), (show hexF 3 u ++ [] = hexL u from List.append_nil _), HS.out, HB1.out⟩
 case round =>
  obtain ⟨uu, ii, f, ds, rfl, rfl, hii, hf, hg, AU, AH, AR, AB⟩ := hrel
  clear HS
  obtain ⟨i1, hi1⟩ : ∃ i1, ii = i1 + 1 := ⟨ii - 1, by omega⟩
  have hws : IntKind.i64.wrap ((ii : Int) - 1) = (i1 : Int) := by rw [IntKind.wrap_i64]; omega
  have hi1z : (i1 : Int) < 65 := by omega
  have HI := Lib.hid hi1
  have hrl := hexRow_len ds (by omega)
  have hc1 : wr.cell? ⟨ga, i1, none⟩ = some ((hexRow ds)[i1]'(by omega)) := (blk_cell AR.out i1).trans (by rw [List.getElem?_toArray]; exact List.getElem?_eq_getElem _)
  have hfz := blk_frozen AR.out i1
  generalize (hexRow ds)[i1]'(by omega) = old at hc1
  clear hi1 hrl
  by_cases hge : 16 ≤ uu
  · have hgez : (16 : Int) ≤ (uu : Int) := by omega
    obtain ⟨d, hd⟩ : ∃ d, d = uu % 16 := ⟨_, rfl⟩
    have hdz : (d : Int) < 36 := by omega
    have hd16 : d < 36 := by omega
    have hand : bits .and .u64 (uu : Int) 15 = (d : Int) := by
     have h1 : uu < 18446744073709551616 := by
      have h2 := AU.out
      have h3 : (16 : Nat) ^ (f + 1) ≤ 16 ^ 4 := Nat.pow_le_pow_right (by decide) (by omega)
      have h4 : (16 : Nat) ^ 4 = 65536 := by decide
      omega
     rw [show (15 : Int) = ((15 : Nat) : Int) from rfl, bits_and_u64_nat uu 15 h1 (by decide), hd]
     rw [show (15 : Nat) = 2 ^ 4 - 1 from rfl, Nat.and_two_pow_sub_one_eq_mod]
    have HD := Lib.hid hd
    clear hd
    go_wp2
    go_roundg (f - 1)
    case measure =>
     have h2 := AU.out
     have h3 : f ≠ 0 := fun z => by
      rw [z] at h2
      omega
     omega
    case rel =>
     have hlt : f ≠ 0 := fun z => by
      have h2 := AU.out
      rw [z] at h2
      omega
     obtain ⟨f1, rfl⟩ : ∃ f1, f = f1 + 1 := ⟨f - 1, by omega⟩
     have e1 := HI.out
     refine ⟨uu / 16, i1, f1, hexD d :: ds, by rw [show ((uu : Int) / 16) = ((uu / 16 : Nat) : Int) by omega], rfl, by rw [List.length_cons]; omega, by rw [List.length_cons]; omega, by omega, (show Aside _ from ?_), (show Aside _ from ?_), (show Aside _ from ?_), below_set AB.out (by have h1 := HGA.out; omega)⟩
     · have h2 := AU.out
       rw [Nat.pow_succ] at h2
       exact Nat.div_lt_of_lt_mul (by rw [Nat.mul_comm]; exact h2)
     · have h2 := AH.out
       rw [hexF_big f1 uu (by omega), List.append_assoc, ← HD.out] at h2
       exact h2
     · have h3 := blk_set AR.out i1 (.int .u8 ((hexD d).toNat : Int))
       have h4 : (hexRow ds).toArray.setIfInBounds i1 (.int .u8 ((hexD d).toNat : Int)) = (hexRow (hexD d :: ds)).toArray := by
        rw [List.setIfInBounds_toArray, show i1 = 64 - ds.length from by omega, hexRow_set ds (hexD d) (by omega)]
       rw [h4] at h3
       rw [dig_at d _ (by have := HD.out; omega)]
       exact h3
  · have hgez : ¬ (16 : Int) ≤ (uu : Int) := by omega
    have hu16 : uu < 16 := by omega
    have hu36 : uu < (⟨#[48, 49, 50, 51, 52, 53, 54, 55, 56, 57, 97, 98, 99, 100, 101, 102, 103, 104, 105, 106, 107, 108, 109, 110, 111, 112, 113, 114, 115, 116, 117, 118, 119, 120, 121, 122]⟩ : ByteArray).size := by show uu < 36; omega
    have hconv : ∀ c, (convert 109 9 (.slice (some ⟨ga, i1, none⟩) (65 - i1) c)).run Tryz.prog (wr.setCell ⟨ga, i1, none⟩ (.int .u8 (((⟨#[48, 49, 50, 51, 52, 53, 54, 55, 56, 57, 97, 98, 99, 100, 101, 102, 103, 104, 105, 106, 107, 108, 109, 110, 111, 112, 113, 114, 115, 116, 117, 118, 119, 120, 121, 122]⟩ : ByteArray)[uu]'hu36).toNat : Int))) = .ok (.string ⟨(hexL u).toArray⟩) (wr.setCell ⟨ga, i1, none⟩ (.int .u8 (((⟨#[48, 49, 50, 51, 52, 53, 54, 55, 56, 57, 97, 98, 99, 100, 101, 102, 103, 104, 105, 106, 107, 108, 109, 110, 111, 112, 113, 114, 115, 116, 117, 118, 119, 120, 121, 122]⟩ : ByteArray)[uu]'hu36).toNat : Int))) := fun c => by
     rw [dig_at uu _ hu16]
     have h3 := blk_set AR.out i1 (.int .u8 ((hexD uu).toNat : Int))
     have h4 : (hexRow ds).toArray.setIfInBounds i1 (.int .u8 ((hexD uu).toNat : Int)) = (hexRow (hexD uu :: ds)).toArray := by
      have := HI.out
      rw [List.setIfInBounds_toArray, show i1 = 64 - ds.length from by omega, hexRow_set ds (hexD uu) (by omega)]
     rw [h4] at h3
     have hl : (hexD uu :: ds).length = 65 - i1 := by have := HI.out; rw [List.length_cons]; omega
     have hstr : strOfNums ((hexD uu :: ds).map fun d => (d.toNat : Int)) = ⟨(hexL u).toArray⟩ := by
      have h5 := AH.out
      rw [hexF_small f uu hu16] at h5
      rw [← h5]
      exact nums_back _
     rw [← hstr, ← hl]
     exact run_convert_bytes_arg _ 109 5 Tryz.underlying109 Tryz.underlying5 ga i1 _ c ((hexD uu :: ds).map fun d => (d.toNat : Int)) (List.length_map _) (fun j hj => by
      refine (blk_cell h3 (i1 + j)).trans ?_
      rw [List.getElem?_toArray]
      unfold hexRow
      rw [hl, List.getElem?_append_right (by rw [List.length_replicate]; omega), List.length_replicate, show i1 + j - (65 - (65 - i1)) = j from by omega, List.getElem?_map, List.getElem?_eq_getElem hj, List.getD_eq_getElem?_getD, List.getElem?_map, List.getElem?_eq_getElem hj]
      rfl) 9 Tryz.underlying9
    have hsl : ∀ W, (Instr.sliceAt 262 (.pointer (some ⟨ga, 0, none⟩)) (some (.int .i64 i1)) none none).run Tryz.prog W = .ok (.slice (some ⟨ga, i1, none⟩) (65 - i1) (65 - i1)) W := fun W => by
     have hu : Tryz.prog.underlying 262 = some (.array (Tryz.prog.arrayLen 262) (Tryz.prog.elem 262)) := by kernel_rfl
     have hl : Tryz.prog.arrayLen 262 = 65 := by kernel_rfl
     have he : Tryz.prog.elem 262 = 5 := by kernel_rfl
     rw [run_sliceAt_array_l W 262 _ hu .i64 i1 (by omega) (by rw [hl]; omega), hl, he, Tryz.sizeOf5]
     have hne : ¬ (65 = i1) := by omega
     simp [slicedAt, Result.andThen, hne, Lib.add_plain]
    go_wp2
    go_ret2
    exact ⟨rfl, below_set AB.out (by have h1 := HGA.out; omega)⟩
theorem fmt_calls (u : Nat) (hu : u < 65536) (w : World) (hG : Gt w) :
 Calls Tryz.prog 123 #[.int .i64 u, .int .i64 16] w fun e w' => e = .returned (.string ⟨(hexL u).toArray⟩) ∧ Below w.heap.size w w' := by
 have hin : Calls Tryz.prog 172 #[.int .i64 u, .int .i64 16] w fun e w' => e = .returned (.string ⟨(hexL u).toArray⟩) ∧ Below w.heap.size w w' := by
  have HB := Lib.hid (bits_calls u hu w hG)
  have huz : ((u : Int) < 0) = False := by simp
  have hub : (u : Int) ≤ 65535 := by omega
  have hdz : decide ((u : Int) < 0) = false := by simp
  have hwu : IntKind.u64.wrap (u : Int) = (u : Int) := by simp [IntKind.wrap, IntKind.signed, IntKind.bits]; omega
  clear hG
  go_enter Tryz.func172, Tryz.ntmps172
  go_wp2_with (go_at_call 230; (with_reducible refine HB.out.mono ?_); rintro e w' ⟨rfl, hb⟩; have HBB := Lib.hid hb; clear hb)
  go_ret
  exact ⟨rfl, HBB.out⟩
 have HI := Lib.hid hin
 clear hG hin
 go_enter Tryz.func123, Tryz.ntmps123
 go_wp2_with (go_at_call 172; (with_reducible refine HI.out.mono ?_); rintro e w' ⟨rfl, hb⟩; have HBB := Lib.hid hb; clear hb)
 go_ret
 exact ⟨rfl, HBB.out⟩
end Go.Proofs.YtkjgnnhpjcofiaaGreatDoor.PX.X
