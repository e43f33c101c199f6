/- Texts of this claim set one behind another by wip/bundle.py: XSortD. -/
import Derived.Test.YtjibadlbiapcmaaDoorBAD17
import Derived.Test.YtjibadlbiapcmaaDoorBAD1
namespace Go.Proofs.YtjibadlbiapcmaaDoor.PX.X
open Go Go.RowKit Go.Lib Go.Proofs.YtjibadlbiapcmaaDoorW.PrintWords Go.Proofs.YtjibadlbiapcmaaDoor.PX
set_option linter.unusedVariables false
/-- Where a file goes: behind all that are not behind it, looked for from the end. -/
def placeF (l : List FileT) (s : ByteArray) : Nat → Nat
  | 0 => 0
  | n + 1 => if lessB s (l.getD n z106).f0 = true then placeF l s n else n + 1
def insF (l : List FileT) (x : FileT) : List FileT := (l.take (placeF l x.f0 l.length) ++ [x]) ++ l.drop (placeF l x.f0 l.length)
def sortF (l : List FileT) : List FileT := l.foldl insF []
theorem insF_len (l : List FileT) (x : FileT) : (insF l x).length = l.length + 1 := by
  unfold insF
  rw [List.length_append, List.length_append, List.length_take, List.length_drop, List.length_singleton]
  omega
theorem sortF_len (l : List FileT) : ∀ acc : List FileT, (l.foldl insF acc).length = acc.length + l.length := by
  induction l with
  | nil => intro acc; rfl
  | cons x l ih =>
    intro acc
    rw [List.foldl_cons, ih, insF_len, List.length_cons]
    omega
theorem sortF_snoc (l : List FileT) (x : FileT) : sortF (l ++ [x]) = insF (sortF l) x := by
  unfold sortF
  rw [List.foldl_append]
  rfl
end Go.Proofs.YtjibadlbiapcmaaDoor.PX.X
