/- Texts of this claim set one behind another by wip/bundle.py: XHistD. -/
import Derived.Test.YtpnoghcdfbmpoaaGreatDoorBLT4
import Derived.Test.YtpnoghcdfbmpoaaGreatDoorBLT15
namespace Go.Proofs.YtpnoghcdfbmpoaaGreatDoor.PX.X
open Go Go.RowKit Go.Lib Go.Proofs.YtpnoghcdfbmpoaaGreatDoorW.PrintWords
set_option linter.unusedVariables false
abbrev CmR := ByteArray × List ByteArray × Int × ByteArray × Int
def parsC (c : CmR) : List ByteArray := c.2.1
def codeC (c : CmR) : Int := c.2.2.2.2
def hasB (l : List ByteArray) (s : ByteArray) : Bool := l.any fun x => decide (x = s)
def addNew : List ByteArray → List ByteArray → List ByteArray
 | S, [] => S
 | S, p :: ps => addNew (if hasB S p = true then S else S ++ [p]) ps
theorem addNew_len : ∀ (ps S : List ByteArray), (addNew S ps).length ≤ S.length + ps.length
 | [], S => Nat.le_refl _
 | p :: ps, S => by
   show (addNew (if hasB S p = true then S else S ++ [p]) ps).length ≤ _
   by_cases hh : hasB S p = true
   · rw [if_pos hh, List.length_cons]
     have := addNew_len ps S
     omega
   · rw [if_neg hh, List.length_cons]
     have := addNew_len ps (S ++ [p])
     rw [List.length_append, List.length_singleton] at this
     omega
def seenO (cm : ByteArray → CmR) : Nat → Nat → List ByteArray → Option (List ByteArray)
 | 0, _, _ => none
 | k + 1, i, S => if i < S.length then (if S.length ≤ 1048576 ∧ (parsC (cm (S.getD i ByteArray.empty))).length ≤ 1048576 then seenO cm k (i + 1) (addNew S (parsC (cm (S.getD i ByteArray.empty)))) else none) else (if S.length ≤ 1048576 then some S else none)
def chkC (cm : ByteArray → CmR) : List ByteArray → Int
 | [] => 0
 | x :: l => if codeC (cm x) = 0 then chkC cm l else codeC (cm x)
def sortP (S : List ByteArray) : List ByteArray := S.foldl putL []
def histS (cm : ByteArray → CmR) (k : Nat) (id : ByteArray) : Option (List ByteArray × Int) :=
 (seenO cm k 0 [id]).bind fun S => if S.length > 100 then some ([], 2) else if chkC cm (sortP S) = 0 then some (sortP S, 0) else some ([], chkC cm (sortP S))
end Go.Proofs.YtpnoghcdfbmpoaaGreatDoor.PX.X
