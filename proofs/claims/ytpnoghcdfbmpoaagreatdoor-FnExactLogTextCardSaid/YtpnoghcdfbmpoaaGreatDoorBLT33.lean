/- Texts of this claim set one behind another by wip/bundle.py: XPar. -/
import Derived.Test.YtpnoghcdfbmpoaaGreatDoorBLT9
import Derived.Test.YtpnoghcdfbmpoaaGreatDoorBLT2
import Derived.Test.YtpnoghcdfbmpoaaGreatDoorBLT10
import Derived.Shelf.Strconv.ParseIntPublic10
import Derived.Shelf.Strings.Cut
import Derived.BigQuiet
import Derived.IntWalk
namespace Go.Proofs.YtpnoghcdfbmpoaaGreatDoor.PX.X
open Go Go.RowKit Go.Lib Go.Proofs.YtpnoghcdfbmpoaaGreatDoorW.PrintWords Go.Proofs.YtpnoghcdfbmpoaaGreatDoor.PX
set_option linter.unusedVariables false
set_option linter.unusedSimpArgs false
def parV (l : List UInt8) : Int := match Lib.parseIntB 64 l with
 | .ok v => v
 | .«syntax» => 0
 | .range => Lib.intSat 64 l
theorem parse_calls (s : ByteArray) (hs : s.size ≤ 281474976710656) (w : World) (hG : Gt w) :
 Calls Tryz.prog 96 #[.string s, .int .i64 10, .int .i64 64] w fun e w' => ∃ ev, e = .returned (.tuple #[.int .i64 (parV s.data.toList), ev]) ∧ Below w.heap.size w w' := by
 obtain ⟨⟨te, pe, h1⟩, ⟨te2, pe2, h2⟩⟩ := hG.2.2
 unfold parV
 cases h : Lib.parseIntB 64 s.data.toList with
 | ok v =>
   refine (Any.strconv_ParseInt_10_at64_ok Tryz.laysC174 s (by omega) v h w).mono ?_
   rintro e w' ⟨rfl, hw⟩
   refine ⟨_, rfl, ?_⟩
   rcases hw with rfl | ⟨t, rfl⟩
   · exact Below.refl _ _
   · exact Lib.bytesWorld_below _ _ _
 | «syntax» =>
   refine (Any.strconv_ParseInt_10_at64_syntax Tryz.laysC174 s hs h _ w h1 (.inr ⟨te, pe, rfl⟩)).mono ?_
   rintro e w' ⟨N, rfl, _, _, hb⟩
   exact ⟨_, rfl, hb⟩
 | range =>
   refine (Any.strconv_ParseInt_10_at64_range Tryz.laysC174 s hs h _ w h2 (.inr ⟨te2, pe2, rfl⟩)).mono ?_
   rintro e w' ⟨N, rfl, _, _, hb⟩
   exact ⟨_, rfl, hb⟩
def cutA (c : UInt8) (s : ByteArray) : ByteArray := ⟨(Lib.cut s.data.toList [c]).1.toArray⟩
def cutB (c : UInt8) (s : ByteArray) : ByteArray := ⟨(Lib.cut s.data.toList [c]).2.1.toArray⟩
theorem slcut_calls (s : ByteArray) (c : UInt8) (hsz : s.size ≤ 9223372036854775806) (w : World) :
 Calls Tryz.prog 127 #[.string s, .string ⟨#[c]⟩] w fun e w' => e = .returned (.tuple #[.string (cutA c s), .string (cutB c s), .bool (Lib.cut s.data.toList [c]).2.2]) ∧ ∃ n, w' = w.drewN n := by
 have hI : ∀ w', Calls Tryz.prog 157 #[.string s, .string ⟨#[c]⟩] w' fun e w2 => e = .returned (.int .i64 (Lib.index s.data.toList [c])) ∧ w2 = w' := fun w' => by
  rw [Lib.index_one]
  exact Any.stringslite_Index_one { Tryz.lays145 with } s c w'
 unfold cutA cutB
 rcases Lib.indexB_cases s ⟨#[c]⟩ with hix | ⟨i, hix, hroom⟩
 · obtain ⟨e1, e2, e3⟩ := Lib.cutB_miss s ⟨#[c]⟩ hix
   rw [show ([c] : List UInt8) = (⟨#[c]⟩ : ByteArray).data.toList from rfl]
   rw [e1, e2, e3]
   go_enter Tryz.func127, Tryz.ntmps127
   go_wp2_with (go_at_call 157; refine (hI _).mono ?_; rintro e w' ⟨rfl, rfl⟩; rw [show Lib.index s.data.toList [c] = _ from hix])
   go_ret3
   exact ⟨rfl, 0, rfl⟩
 · obtain ⟨e1, e2, e3⟩ := Lib.cutB_hit s ⟨#[c]⟩ i hix
   rw [show ([c] : List UInt8) = (⟨#[c]⟩ : ByteArray).data.toList from rfl]
   rw [e1, e2, e3]
   have hz : (⟨#[c]⟩ : ByteArray).size = 1 := rfl
   rw [hz] at hroom ⊢
   have c1 : (0 : Int) ≤ ↑i := by omega
   have c2 : (↑i : Int) ≤ ↑s.size := by omega
   have c3 : (0 : Int) ≤ ↑i + 1 := by omega
   have c4 : (↑i + 1 : Int) ≤ ↑s.size := by omega
   have c5 : IntKind.i64.wrap ((i : Int) + 1) = (i : Int) + 1 := IntWalk.i64_in _ (by omega)
   go_enter Tryz.func127, Tryz.ntmps127
   go_wp2_with (go_at_call 157; refine (hI _).mono ?_; rintro e w' ⟨rfl, rfl⟩; rw [show Lib.index s.data.toList [c] = _ from hix])
   go_quiet (fail)
   go_wp2
   go_ret3
   exact ⟨rfl, nq, rfl⟩
theorem cut_calls (s : ByteArray) (c : UInt8) (hsz : s.size ≤ 9223372036854775806) (w : World) :
 Calls Tryz.prog 94 #[.string s, .string ⟨#[c]⟩] w fun e w' => e = .returned (.tuple #[.string (cutA c s), .string (cutB c s), .bool (Lib.cut s.data.toList [c]).2.2]) ∧ ∃ n, w' = w.drewN n := by
 have HC := Lib.hid (slcut_calls s c hsz)
 generalize cutA c s = a at HC ⊢
 generalize cutB c s = b at HC ⊢
 generalize (Lib.cut s.data.toList [c]).2.2 = q at HC ⊢
 go_enter Tryz.func94, Tryz.ntmps94
 go_wp2_with (go_at_call 127; (with_reducible refine (HC.out _).mono ?_); rintro e w' ⟨rfl, n, rfl⟩)
 go_ret3
 exact ⟨rfl, n, rfl⟩
end Go.Proofs.YtpnoghcdfbmpoaaGreatDoor.PX.X
