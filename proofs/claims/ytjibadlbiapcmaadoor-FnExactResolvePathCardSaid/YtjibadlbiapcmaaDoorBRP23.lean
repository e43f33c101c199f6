/- Texts of this claim set one behind another by wip/bundle.py: XCmpE. -/
import Derived.Test.YtjibadlbiapcmaaDoorBRP21
import Derived.Test.YtjibadlbiapcmaaDoorBRP15
import Derived.Shelf.Small.Strs
namespace Go.Proofs.YtjibadlbiapcmaaDoor.PX.X
open Go Go.RowKit Go.Lib Go.Proofs.YtjibadlbiapcmaaDoorW.PrintWords Go.Proofs.YtjibadlbiapcmaaDoor.PX
set_option linter.unusedVariables false
def cmpB (a b : ByteArray) : Int := Lib.compareBytes a.data.toList b.data.toList
def cmpI (a b : Int) : Int := if a < b then -1 else if a > b then 1 else 0
/-- compareEntries of x against e. -/
def cmpE (e x : EntT) : Int := if cmpB x.f0 e.f0 = 0 then cmpI x.f1 e.f1 else cmpB x.f0 e.f0
theorem or2 (a b : Int) : cmp_Or_int.f 3 [a, b] = some (if a = 0 then b else a) := by
  unfold cmp_Or_int.f
  simp only [cmp_Or_int.l0, List.length_cons, List.length_nil]
  have w0 : wrap64 ((0 : Int) + 1) = 1 := by decide +kernel
  have w1 : wrap64 ((1 : Int) + 1) = 2 := by decide +kernel
  simp only [w0, w1, rd]
  by_cases ha : a = 0
  · subst ha
    by_cases hb : b = 0
    · subst hb; simp
    · simp [hb]
  · simp [ha]
theorem cmpI_f (a b : Int) : cmp_Compare_int64.f a b = some (cmpI a b) := by
  unfold cmp_Compare_int64.f cmp_isNaN_int64.f cmpI
  simp
  (repeat' split) <;> rfl
theorem cmpE_f (e x : EntT) : impl_compareEntries.f 3 x.f0 x.f1 x.f2 x.f3 e.f0 e.f1 e.f2 e.f3 = some (cmpE e x) := by
  unfold impl_compareEntries.f
  rw [show strings_Compare.f x.f0 e.f0 = some (cmpB x.f0 e.f0) from rfl, Option.bind_some, cmpI_f, Option.bind_some, or2, Option.bind_some]
  rfl
theorem cmpE_calls (e x : EntT) (W : World) : Calls Tryd.prog 106 (#[.agg #[.string x.f0, .int .i64 x.f1, .int .i64 x.f2, .string x.f3], .agg #[.string e.f0, .int .i64 e.f1, .int .i64 e.f2, .string e.f3]] ++ #[]) W fun ev w' => ev = .returned (.int .i64 (cmpE e x)) ∧ Below W.heap.size W w' :=
  impl_compareEntries.calls 3 _ _ _ _ _ _ _ _ _ W (cmpE_f e x)
theorem cmpE_eg (args : Array Value) (w : World) : (callFunc 106 args).run Tryd.prog w = .ok (.enter 106 args) w := enters_of Tryd.func106 (by kernel_rfl) rfl args w
end Go.Proofs.YtjibadlbiapcmaaDoor.PX.X
