-- TOLD BY wip/xprint.py of this repo (a program over the kit's printer): a contract of this seat's functions.
import Derived.Test.YtfemibdffapljaaDoorPXx0
import Derived.Test.YtfemibdffapljaaDoorPXf11
import Derived.Test.YtfemibdffapljaaDoorXSplit
import Derived.Test.YtfemibdffapljaaDoorXShelfB
import Derived.Test.YtfemibdffapljaaDoorXName
namespace Go.Proofs.YtfemibdffapljaaDoor.PX
open Go.RowKit Go.Proofs.YtfemibdffapljaaDoorW.PrintWords Go.Proofs.YtfemibdffapljaaDoorW.PrintLast Go.Proofs.YtfemibdffapljaaDoorW.PrintMore
attribute [local go_sem] max2_int min2_int max_two min_two max_three min_three max_four min_four   -- for this text's walks alone
set_option linter.unusedVariables false
set_option linter.unusedSimpArgs false

/-! ### impl_PathFault: function 5 -/
def impl_PathFault.pieces (a0 : ByteArray) : List ByteArray := Lib.splitB ⟨#[47]⟩ 0 (Lib.countB a0 ⟨#[47]⟩) a0
def impl_PathFault.bad (x : ByteArray) : Bool := !YtfemibdffapljaaDoorX.nameM x.data.toList
def impl_PathFault.v (a0 : ByteArray) : Int := if (impl_PathFault.pieces a0).length ≤ 4 then (if (impl_PathFault.pieces a0).any impl_PathFault.bad then 1 else 0) else 1
def impl_PathFault.f (a0 : ByteArray) : Option Int := if a0.size < 4294967281 then some (impl_PathFault.v a0) else none
theorem impl_PathFault.lit (W : World) (x : ByteArray) : Calls Tryd.prog 10 #[.string x] W fun e w' => e = .returned (.bool (impl_PathFault.bad x)) ∧ ∃ q, w' = W.drewN q := by
  have hc : impl_NameFault.f (x.size + 20) x = some (if YtfemibdffapljaaDoorX.nameM x.data.toList = true then 0 else 1) := YtfemibdffapljaaDoorX.impl_name x _ (by omega)
  unfold impl_PathFault.bad
  cases hn : YtfemibdffapljaaDoorX.nameM x.data.toList <;> rw [hn] at hc <;> simp only [Bool.false_eq_true, if_false, if_true] at hc
  all_goals
    have HC := impl_NameFault.calls (x.size + 20) x _ W hc
    clear hc hn
    go_enter Tryd.func10, Tryd.ntmps10
    go_wp2_with (go_at_call 11; refine HC.mono ?_; rintro e w' ⟨rfl, ⟨q, rfl⟩⟩)
    go_ret
    exact ⟨rfl, _, rfl⟩
set_option maxHeartbeats 1000000 in
theorem impl_PathFault.split (s : ByteArray) (w : World) (hs : s.size < 4294967281) :
    Calls Tryd.prog 8 #[.string s, .string ⟨#[47]⟩] w fun e w' => e = .returned (.slice (some ⟨w.heap.size, 0, none⟩) (impl_PathFault.pieces s).length (impl_PathFault.pieces s).length) ∧ w' = w.alloc (.cells ((impl_PathFault.pieces s).map Value.string).toArray 9) := by
  have HC := Lib.hid (X.genSplit_one s ⟨#[47]⟩ 0 w rfl (by decide) hs)
  clear hs
  unfold impl_PathFault.pieces
  go_enter Tryd.func8, Tryd.ntmps8
  go_wp2_with (go_at_call 13; refine HC.out.mono ?_; rintro e w' ⟨rfl, rfl⟩)
  go_ret
  exact ⟨rfl, rfl⟩
theorem impl_PathFault.eg (args : Array Value) (w : World) : (callFunc 10 args).run Tryd.prog w = .ok (.enter 10 args) w := enters_of Tryd.func10 (by kernel_rfl) rfl args w
theorem impl_PathFault.anyOf (l : List ByteArray) (w w0 : World) (hl : l.length ≤ 9223372036854775807) (hw : w = w0.alloc (.cells (l.map Value.string).toArray 9)) :
    Calls Tryd.prog 9 #[.slice (some ⟨w0.heap.size, 0, none⟩) l.length l.length, .func (.func 10) #[] #[]] w fun e w' => e = .returned (.bool (l.any impl_PathFault.bad)) ∧ ∃ q, w' = w.drewN q := by
  have key := AnyE.slices_ContainsFunc Tryd.laysConStr Value.string impl_PathFault.bad 10 #[] impl_PathFault.eg w0.heap.size 0 l.length l.length l w (fun W x _ => impl_PathFault.lit W x) (Nat.le_refl _) hl (fun j hj => by
    subst hw
    rw [Nat.zero_add]
    simp [hj])
  rw [List.take_length] at key
  exact key
set_option maxHeartbeats 1000000 in
theorem impl_PathFault.calls (a0 : ByteArray) (r : Int) (w : World) (h : impl_PathFault.f a0 = some r) :
    Calls Tryd.prog 5 #[.string a0] w fun e w' => e = .returned (.int .i64 r) ∧ Below w.heap.size w w' := by
  unfold impl_PathFault.f at h
  by_cases h2 : a0.size < 4294967281
  · rw [if_pos h2] at h
    obtain rfl := Option.some.inj h
    have hle : (impl_PathFault.pieces a0).length ≤ a0.size + 1 := X.pieces_le a0 ⟨#[47]⟩ 0 rfl h2
    have HS := Lib.hid (impl_PathFault.split a0 w h2)
    have HA := Lib.hid (impl_PathFault.anyOf (impl_PathFault.pieces a0) (w.alloc (.cells ((impl_PathFault.pieces a0).map Value.string).toArray 9)) w (by omega) rfl)
    unfold impl_PathFault.v
    clear h h2 hle
    by_cases h4 : (impl_PathFault.pieces a0).length ≤ 4
    · rw [if_pos h4]
      have h4z : ¬ ((impl_PathFault.pieces a0).length : Int) > 4 := by omega
      clear h4
      generalize (impl_PathFault.pieces a0).any impl_PathFault.bad = b at HA ⊢
      cases b <;> simp only [Bool.false_eq_true, if_false, if_true]
      all_goals
        go_enter Tryd.func5, Tryd.ntmps5
        go_wp2_with (first | (go_at_call 8; refine HS.out.mono ?_; rintro e w' ⟨rfl, rfl⟩) | (go_at_call 9; refine HA.out.mono ?_; rintro e w' ⟨rfl, q, rfl⟩))
        all_goals go_ret
        all_goals first | exact ⟨rfl, below_drewN' ((Below.refl _ w).alloc (Nat.le_refl _) _) q⟩ | (clear HS HA; exfalso; simp_all <;> omega)
    · rw [if_neg h4]
      have h4z : ((impl_PathFault.pieces a0).length : Int) > 4 := by omega
      clear h4 HA
      go_enter Tryd.func5, Tryd.ntmps5
      go_wp2_with (go_at_call 8; refine HS.out.mono ?_; rintro e w' ⟨rfl, rfl⟩)
      all_goals go_ret
      all_goals first | (exfalso; omega) | exact ⟨by first | rfl | simp_all, (Below.refl _ w).alloc (Nat.le_refl _) _⟩
  · rw [if_neg h2] at h
    cases h

end Go.Proofs.YtfemibdffapljaaDoor.PX
