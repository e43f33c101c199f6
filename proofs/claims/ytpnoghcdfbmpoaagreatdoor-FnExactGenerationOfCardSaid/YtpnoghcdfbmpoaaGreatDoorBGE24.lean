/- Texts of this claim set one behind another by wip/bundle.py: XSeen, XKnown. -/
import Derived.Test.YtpnoghcdfbmpoaaGreatDoorBGE21
import Derived.Test.YtpnoghcdfbmpoaaGreatDoorBGE14
import Derived.Maps.OwnSet
import Derived.Maps.Views
import Derived.StringKeys
namespace Go.Proofs.YtpnoghcdfbmpoaaGreatDoor.PX.X
open Go Go.RowKit Go.Maps Go.Lib Go.Proofs.YtpnoghcdfbmpoaaGreatDoorW.PrintWords Go.Proofs.YtpnoghcdfbmpoaaGreatDoor.PX
set_option linter.unusedVariables false
theorem lawS : Keyed Tryz.prog 9 := string_keyed Tryz.underlying9
theorem zeroB (w : World) : (zeroValue 4).run Tryz.prog w = .ok (.bool false) w := by kernel_rfl
def Seen (w : World) (b : Nat) (L : List ByteArray) : Prop := ∃ D : DataW Unit, w.ownsMap Tryz.prog 9 (plainElem Tryz.prog 4) b L.length D ∧ ∀ x : ByteArray, D.atKey (.string x.data.toList) (.lit (.bool false)) = .lit (.bool (hasB L x))
theorem seen_new (w : World) : Seen (w.alloc (.map #[] 0)) w.heap.size [] := ⟨.map [], World.ownsMap_made _ _ _ _, fun x => rfl⟩
theorem seen_kept {w w' : World} {b : Nat} {L : List ByteArray} {row : Option Nat} (h : Seen w b L) (hg : w.grownBy w' row) (hne : some b ≠ row) : Seen w' b L := by
 obtain ⟨D, h1, h2⟩ := h
 exact ⟨D, h1.kept hg hne, h2⟩
theorem seen_below {w w' : World} {b : Nat} {L : List ByteArray} (h : Seen w b L) (hb : Below w.heap.size w w') : Seen w' b L := by
 obtain ⟨D, ⟨es, clock, hc, r⟩, h2⟩ := h
 exact ⟨D, ⟨es, clock, (hb.block b (Array.getElem?_eq_some_iff.1 hc).1).trans hc, r⟩, h2⟩
theorem plainB_inv {P : Program} {e : TypeId} (hu : P.underlying e = some .bool) {v : Value} {z : DataW Unit × List MemPlace} (h : plainElem P e v = some z) : ∃ c, v = .bool c ∧ z.1 = .lit (.bool c) := by
 cases v with
 | bool c =>
   rw [plainElem_bool hu] at h
   exact ⟨c, rfl, (congrArg Prod.fst (Option.some.inj h)).symm⟩
 | _ =>
   unfold plainElem at h
   rw [hu] at h
   cases h
theorem lookB {P : Program} {t k e : TypeId} {w : World} {b n : Nat} {D : DataW Unit} (h : w.ownsMap P k (plainElem P e) b n D) (K : Keyed P k) (ht : P.underlying t = some (.map k e)) (he : P.underlying e = some .bool) (hz : (zeroValue e).run P w = .ok (.bool false) w) {key : Value} {kl : Lit} (hkey : keyOf P k key = some kl) {c : Bool} (hat : D.atKey kl (.lit (.bool false)) = .lit (.bool c)) : (Instr.lookup t (.map (some b)) key false).run P w = .ok (.bool c) w := by
 obtain ⟨v, ps, hrun, hv⟩ := h.lookup K ht hz (plainElem_bool he false) hkey
 rw [hat] at hv
 obtain ⟨d, rfl, hc⟩ := plainB_inv he hv
 have hc2 : DataW.lit (Lit.bool c) = DataW.lit (Lit.bool d) := hc
 injection hc2 with hc2
 injection hc2 with hc2
 rw [hrun, hc2]
theorem seen_look {w : World} {b : Nat} {L : List ByteArray} (h : Seen w b L) (x : ByteArray) (hx : x.size ≤ maxLen) : (Instr.lookup 94 (.map (some b)) (.string x) false).run Tryz.prog w = .ok (.bool (hasB L x)) w := by
 obtain ⟨D, h1, h2⟩ := h
 exact lookB h1 lawS Tryz.underlying94 Tryz.underlying4 (zeroB w) (WideMaps.keyOf_string_mk Tryz.underlying9 hx) (h2 x)
theorem toL_inj {a b : ByteArray} (h : a.data.toList = b.data.toList) : a = b := by
 cases a; cases b
 congr 1
 exact Array.toList_inj.1 h
theorem seen_put {L : List ByteArray} {x : ByteArray} {D : DataW Unit} (hm : IsMap D) (h2 : ∀ y : ByteArray, D.atKey (.string y.data.toList) (.lit (.bool false)) = .lit (.bool (hasB L y))) (y : ByteArray) : (D.put (.string x.data.toList) (.lit (.bool true))).atKey (.string y.data.toList) (.lit (.bool false)) = .lit (.bool (hasB (L ++ [x]) y)) := by
 have e : hasB (L ++ [x]) y = (hasB L y || decide (x = y)) := by
  unfold hasB
  rw [List.any_append]
  simp
 rw [e]
 by_cases hy : y = x
 · subst hy
   rw [atKey_put_same hm (show WideAt.IsKeyLit (.string y.data.toList) from trivial), decide_eq_true rfl, Bool.or_true]
 · rw [atKey_put_other (fun z => hy (toL_inj (Lit.string.inj z))), h2 y, decide_eq_false (fun z => hy z.symm), Bool.or_false]
theorem seen_store (w : World) {ops : Array Oper} {rest : List Oper} {o : Oper} {a : Act} {Q : Exit → Act → World → Prop} (hg : o.guard = none) (m x v : Operand) (hop : o.op = Op.mapUpdate 94 m x v) (b : Nat) (L : List ByteArray) (hm : a.eval m = .map (some b)) (h : Seen w b L) (hn : L.length < maxLen) (key : ByteArray) (hx : a.eval x = .string key) (hv : a.eval v = .bool true) (hk : key.size ≤ maxLen)
 (hK : ∀ w', Seen w' b (L ++ [key]) → w.grownBy w' (some b) → wpList Tryz.prog ops Q rest (a.put o.dst undef) w') : wpList Tryz.prog ops Q (o :: rest) a w := by
 obtain ⟨D, h1, h2⟩ := h
 exact wpList_mapUpdate_own w hg m x v _ hop _ _ lawS Tryz.underlying94 _ b L.length D hm h1 hn (.string key) (.bool true) (.string key.data.toList) hx hv (WideMaps.keyOf_string_mk Tryz.underlying9 hk) (.lit (.bool true)) [] (plainElem_bool Tryz.underlying4 true) (fun w' hw hgr => hK w' ⟨_, by rw [List.length_append]; exact hw, seen_put h1.isMap h2⟩ hgr)
def knownV : List (ByteArray × Int) → ByteArray → Option Int
 | [], _ => none
 | p :: M, y => if p.1 = y then some p.2 else knownV M y
theorem zeroI (w : World) : (zeroValue 2).run Tryz.prog w = .ok (.int .i64 0) w := by kernel_rfl
def Known (w : World) (b : Nat) (M : List (ByteArray × Int)) : Prop := ∃ D : DataW Unit, w.ownsMap Tryz.prog 9 (plainElem Tryz.prog 2) b M.length D ∧ ∀ x : ByteArray, Maps.has D (.string x.data.toList) = (knownV M x).isSome ∧ D.atKey (.string x.data.toList) (.lit (.int .i64 0)) = .lit (.int .i64 ((knownV M x).getD 0))
theorem known_new (w : World) : Known (w.alloc (.map #[] 0)) w.heap.size [] := ⟨.map [], World.ownsMap_made _ _ _ _, fun x => ⟨rfl, rfl⟩⟩
theorem known_below {w w' : World} {b : Nat} {M : List (ByteArray × Int)} (h : Known w b M) (hb : Below w.heap.size w w') : Known w' b M := by
 obtain ⟨D, ⟨es, clock, hc, r⟩, h2⟩ := h
 exact ⟨D, ⟨es, clock, (hb.block b (Array.getElem?_eq_some_iff.1 hc).1).trans hc, r⟩, h2⟩
theorem known_put {M : List (ByteArray × Int)} {x : ByteArray} {v : Int} {D : DataW Unit} (hm : IsMap D) (h2 : ∀ y : ByteArray, Maps.has D (.string y.data.toList) = (knownV M y).isSome ∧ D.atKey (.string y.data.toList) (.lit (.int .i64 0)) = .lit (.int .i64 ((knownV M y).getD 0))) (y : ByteArray) :
 Maps.has (D.put (.string x.data.toList) (.lit (.int .i64 v))) (.string y.data.toList) = (knownV ((x, v) :: M) y).isSome ∧ (D.put (.string x.data.toList) (.lit (.int .i64 v))).atKey (.string y.data.toList) (.lit (.int .i64 0)) = .lit (.int .i64 ((knownV ((x, v) :: M) y).getD 0)) := by
 unfold knownV
 by_cases hy : x = y
 · subst hy
   rw [if_pos rfl, atKey_put_same hm (show WideAt.IsKeyLit (.string x.data.toList) from trivial), has_put_same hm (show WideAt.IsKeyLit (.string x.data.toList) from trivial)]
   exact ⟨rfl, rfl⟩
 · have hne : Lit.string y.data.toList ≠ Lit.string x.data.toList := fun z => hy (toL_inj (Lit.string.inj z)).symm
   rw [if_neg hy, atKey_put_other hne, has_put_other hne]
   exact h2 y
theorem known_store (w : World) {ops : Array Oper} {rest : List Oper} {o : Oper} {a : Act} {Q : Exit → Act → World → Prop} (hg : o.guard = none) (m x v : Operand) (hop : o.op = Op.mapUpdate 67 m x v) (b : Nat) (M : List (ByteArray × Int)) (hm : a.eval m = .map (some b)) (h : Known w b M) (hn : M.length < maxLen) (key : ByteArray) (c : Int) (hx : a.eval x = .string key) (hv : a.eval v = .int .i64 c) (hc : (Lit.int .i64 c).wf = true) (hk : key.size ≤ maxLen)
 (hK : ∀ w', Known w' b ((key, c) :: M) → w.grownBy w' (some b) → wpList Tryz.prog ops Q rest (a.put o.dst undef) w') : wpList Tryz.prog ops Q (o :: rest) a w := by
 obtain ⟨D, h1, h2⟩ := h
 exact wpList_mapUpdate_own w hg m x v _ hop _ _ lawS Tryz.underlying67 _ b M.length D hm h1 hn (.string key) (.int .i64 c) (.string key.data.toList) hx hv (WideMaps.keyOf_string_mk Tryz.underlying9 hk) (.lit (.int .i64 c)) [] (plainElem_int Tryz.underlying2 hc) (fun w' hw hgr => hK w' ⟨_, by rw [List.length_cons]; exact hw, known_put h1.isMap h2⟩ hgr)
theorem known_run {w : World} {b : Nat} {M : List (ByteArray × Int)} (h : Known w b M) (x : ByteArray) (hx : x.size ≤ maxLen) : (Instr.lookup 67 (.map (some b)) (.string x) true).run Tryz.prog w = .ok (.tuple #[.int .i64 ((knownV M x).getD 0), .bool (knownV M x).isSome]) w := by
 obtain ⟨D, h1, h2⟩ := h
 obtain ⟨v, ps, hrun, hv⟩ := h1.look_ok lawS Tryz.underlying67 (zeroI w) (plainElem_int Tryz.underlying2 zq10) (WideMaps.keyOf_string_mk Tryz.underlying9 hx)
 rw [(h2 x).2] at hv
 obtain ⟨c, rfl, hc, _⟩ := plainElem_int_inv Tryz.underlying2 hv
 have hc2 : (knownV M x).getD 0 = c := by
  have hc3 : (DataW.lit (Lit.int .i64 ((knownV M x).getD 0)) : DataW Unit) = DataW.lit (Lit.int .i64 c) := congrArg Prod.fst hc
  exact (Lit.int.inj (DataW.lit.inj hc3)).2
 rw [hrun, hc2, (h2 x).1]
end Go.Proofs.YtpnoghcdfbmpoaaGreatDoor.PX.X
