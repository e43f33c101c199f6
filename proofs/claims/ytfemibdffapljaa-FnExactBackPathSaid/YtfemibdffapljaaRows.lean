/-
  No cell of these rows narrows 'for every input' (looked for: loops, veiled, ifaces, maps, wideKeys, modest, calm, conditions, laid).
  DERIVED. THE GIVEN ROWS OF THIS SEAT. 4 by the template 'for every input the law returns true; each argument reads behind the call as it read before'; 0 by the template 'total and deterministic' (their statements: YtfemibdffapljaaTotals.lean).
  GIVEN WITH THE SEED: the statements are not yours to turn. If you find one false, say at which input.
  Laid BY PROGRAM, IN A SANDBOX (cutbox-rows.mjs): the forced cells as the released guide's own fill.sh prints them over the translation 6d7d6acfb2d84d56… (all of the seat's roots in one cut). By AI agents, Wed Nov 11 2026. No macro, syntax, notation, axiom, sorry.
-/
import Derived.Test.YtfemibdffapljaaChecked
import GoSem.Claim
import GoSem.ClaimJoined
import GoSem.ClaimMapViews
import Derived.JoinedTies
import Derived.KernelRfl
namespace Go.Proofs.Ytfemibdffapljaa
/- THE CELL 'sum', in the pinned program and in every row, IS THE sha256 OF THE DUMP (.gsa) THAT YtfemibdffapljaaProg.lean LOADS. Nothing in Lean hashes anything: it is a label: what it is worth is what the hold of that sum in a sandbox is worth. -/
noncomputable def Try.pinned : Pinned := { name := "ytfemibdffapljaa", sum := "6d7d6acfb2d84d56dbc31cb5a4f2eec689fd5306dd170180706952ef171e934b", checked := Try.checked }
namespace Rows
def none {H : Type} : Left H := { results := [], args := [] }

/-- 'laws.FnExactInDir': WHATEVER THE INPUT: true; the input reads as it did. -/
def fnExactInDirSpec : ChangeSpec := { name := "fnExactInDir", fn := fun _ => fun
  | [d1, d2] => { results := [.lit (.bool true)], args := [d1, d2] }
  | _ => none }
def fnExactInDirRow : OpenClaim := { program := "ytfemibdffapljaa", sum := "6d7d6acfb2d84d56dbc31cb5a4f2eec689fd5306dd170180706952ef171e934b", func := "loop.example/g00172/laws.FnExactInDir", spec := "fnExactInDir", apart := false }
def FnExactInDirSaid : Prop := fnExactInDirRow.holds Try.pinned (OpenSpec.ofChange fnExactInDirSpec)

/-- ITS FALSE NEIGHBOUR: 'it returns false'. Refute it at one input. -/
def fnExactInDirWrong : ChangeSpec := { name := "fnExactInDir", fn := fun _ => fun
  | [d1, d2] => { results := [.lit (.bool false)], args := [d1, d2] }
  | _ => none }
def FnExactInDirWrongFalsely : Prop := fnExactInDirRow.holds Try.pinned (OpenSpec.ofChange fnExactInDirWrong)

/-- 'laws.FnExactNameFault': WHATEVER THE INPUT: true; the input reads as it did. -/
def fnExactNameFaultSpec : ChangeSpec := { name := "fnExactNameFault", fn := fun _ => fun
  | [d] => { results := [.lit (.bool true)], args := [d] }
  | _ => none }
def fnExactNameFaultRow : OpenClaim := { program := "ytfemibdffapljaa", sum := "6d7d6acfb2d84d56dbc31cb5a4f2eec689fd5306dd170180706952ef171e934b", func := "loop.example/g00172/laws.FnExactNameFault", spec := "fnExactNameFault", apart := false }
def FnExactNameFaultSaid : Prop := fnExactNameFaultRow.holds Try.pinned (OpenSpec.ofChange fnExactNameFaultSpec)

/-- ITS FALSE NEIGHBOUR: 'it returns false'. Refute it at one input. -/
def fnExactNameFaultWrong : ChangeSpec := { name := "fnExactNameFault", fn := fun _ => fun
  | [d] => { results := [.lit (.bool false)], args := [d] }
  | _ => none }
def FnExactNameFaultWrongFalsely : Prop := fnExactNameFaultRow.holds Try.pinned (OpenSpec.ofChange fnExactNameFaultWrong)

/-- 'laws.FnExactBackPath': WHATEVER THE INPUT: true; the input reads as it did. -/
def fnExactBackPathSpec : ChangeSpec := { name := "fnExactBackPath", fn := fun _ => fun
  | [d1, d2] => { results := [.lit (.bool true)], args := [d1, d2] }
  | _ => none }
def fnExactBackPathRow : OpenClaim := { program := "ytfemibdffapljaa", sum := "6d7d6acfb2d84d56dbc31cb5a4f2eec689fd5306dd170180706952ef171e934b", func := "loop.example/g00172/laws.FnExactBackPath", spec := "fnExactBackPath", apart := false }
def FnExactBackPathSaid : Prop := fnExactBackPathRow.holds Try.pinned (OpenSpec.ofChange fnExactBackPathSpec)

/-- ITS FALSE NEIGHBOUR: 'it returns false'. Refute it at one input. -/
def fnExactBackPathWrong : ChangeSpec := { name := "fnExactBackPath", fn := fun _ => fun
  | [d1, d2] => { results := [.lit (.bool false)], args := [d1, d2] }
  | _ => none }
def FnExactBackPathWrongFalsely : Prop := fnExactBackPathRow.holds Try.pinned (OpenSpec.ofChange fnExactBackPathWrong)

/-- 'laws.FnExactFollowPath': WHATEVER THE INPUT: true; the input reads as it did. -/
def fnExactFollowPathSpec : ChangeSpec := { name := "fnExactFollowPath", fn := fun _ => fun
  | [d1, d2] => { results := [.lit (.bool true)], args := [d1, d2] }
  | _ => none }
def fnExactFollowPathRow : OpenClaim := { program := "ytfemibdffapljaa", sum := "6d7d6acfb2d84d56dbc31cb5a4f2eec689fd5306dd170180706952ef171e934b", func := "loop.example/g00172/laws.FnExactFollowPath", spec := "fnExactFollowPath", apart := false }
def FnExactFollowPathSaid : Prop := fnExactFollowPathRow.holds Try.pinned (OpenSpec.ofChange fnExactFollowPathSpec)

/-- ITS FALSE NEIGHBOUR: 'it returns false'. Refute it at one input. -/
def fnExactFollowPathWrong : ChangeSpec := { name := "fnExactFollowPath", fn := fun _ => fun
  | [d1, d2] => { results := [.lit (.bool false)], args := [d1, d2] }
  | _ => none }
def FnExactFollowPathWrongFalsely : Prop := fnExactFollowPathRow.holds Try.pinned (OpenSpec.ofChange fnExactFollowPathWrong)

/- THE SECOND FORM. 'bulk': how many values and letters a reading holds, each counted each time it is reached (what is shared counts as often as it is met; a slice's spare places count too). A statement '..UptoSaid' is the law's where the arguments, and the package variables that the reading takes, are together of bulk at most 1048576: NARROWER than '..Said'. Prove '..Said' where nothing that the law and all that it calls make is longer than what came in: it says more and counts as full. Else prove '..UptoSaid'. A law counts once. -/
mutual
def uptoBulk {H : Type} : DataW H → Nat
  | .lit (.string bytes) => bytes.length + 1
  | .lit _ => 1
  | .nil => 1
  | .ptr d => uptoBulk d + 1
  | .slice elems spare => uptoBulkAll elems + uptoBulkAll spare + 1
  | .agg parts => uptoBulkAll parts + 1
  | .iface _ d => uptoBulk d + 1
  | .map entries => uptoBulkEntries entries + 1
  | .held _ => 1
def uptoBulkAll {H : Type} : List (DataW H) → Nat
  | [] => 0
  | d :: r => uptoBulk d + uptoBulkAll r
def uptoBulkEntries {H : Type} : List (Lit × DataW H) → Nat
  | [] => 0
  | x :: r => uptoBulkEntry x + uptoBulkEntries r
def uptoBulkEntry {H : Type} : Lit × DataW H → Nat
  | (.string bytes, d) => bytes.length + uptoBulk d + 1
  | (_, d) => uptoBulk d + 1
 end
def uptoSmall : (H : Type) → List (DataW H) → Bool := fun _ ds => decide (uptoBulkAll ds ≤ 1048576)
def OpenSpec.upto (s : _root_.Go.ChangeSpec) : _root_.Go.OpenSpec := { _root_.Go.OpenSpec.ofChange s with cond := some uptoSmall }

/-- 'laws.FnExactInDir', WHERE WHAT IT READS IS OF BULK AT MOST 1048576: true; the input reads as it did. -/
def fnExactInDirUptoRow : OpenClaim := { program := "ytfemibdffapljaa", sum := "6d7d6acfb2d84d56dbc31cb5a4f2eec689fd5306dd170180706952ef171e934b", func := "loop.example/g00172/laws.FnExactInDir", spec := "fnExactInDir", apart := false, narrowed := true }
def FnExactInDirUptoSaid : Prop := fnExactInDirUptoRow.holds Try.pinned (OpenSpec.upto fnExactInDirSpec)

/-- 'laws.FnExactNameFault', WHERE WHAT IT READS IS OF BULK AT MOST 1048576: true; the input reads as it did. -/
def fnExactNameFaultUptoRow : OpenClaim := { program := "ytfemibdffapljaa", sum := "6d7d6acfb2d84d56dbc31cb5a4f2eec689fd5306dd170180706952ef171e934b", func := "loop.example/g00172/laws.FnExactNameFault", spec := "fnExactNameFault", apart := false, narrowed := true }
def FnExactNameFaultUptoSaid : Prop := fnExactNameFaultUptoRow.holds Try.pinned (OpenSpec.upto fnExactNameFaultSpec)

/-- 'laws.FnExactBackPath', WHERE WHAT IT READS IS OF BULK AT MOST 1048576: true; the input reads as it did. -/
def fnExactBackPathUptoRow : OpenClaim := { program := "ytfemibdffapljaa", sum := "6d7d6acfb2d84d56dbc31cb5a4f2eec689fd5306dd170180706952ef171e934b", func := "loop.example/g00172/laws.FnExactBackPath", spec := "fnExactBackPath", apart := false, narrowed := true }
def FnExactBackPathUptoSaid : Prop := fnExactBackPathUptoRow.holds Try.pinned (OpenSpec.upto fnExactBackPathSpec)

/-- 'laws.FnExactFollowPath', WHERE WHAT IT READS IS OF BULK AT MOST 1048576: true; the input reads as it did. -/
def fnExactFollowPathUptoRow : OpenClaim := { program := "ytfemibdffapljaa", sum := "6d7d6acfb2d84d56dbc31cb5a4f2eec689fd5306dd170180706952ef171e934b", func := "loop.example/g00172/laws.FnExactFollowPath", spec := "fnExactFollowPath", apart := false, narrowed := true }
def FnExactFollowPathUptoSaid : Prop := fnExactFollowPathUptoRow.holds Try.pinned (OpenSpec.upto fnExactFollowPathSpec)

end Rows
end Go.Proofs.Ytfemibdffapljaa
