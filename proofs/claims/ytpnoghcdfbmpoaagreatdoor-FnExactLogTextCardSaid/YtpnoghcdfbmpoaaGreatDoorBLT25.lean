/- Texts of this claim set one behind another by wip/bundle.py: XSeen, XMapC. -/
import Derived.Test.YtpnoghcdfbmpoaaGreatDoorBLT22
import Derived.Test.YtpnoghcdfbmpoaaGreatDoorBLT15
import Derived.Maps.OwnSet
import Derived.Maps.Views
import Derived.StringKeys
namespace Go.Proofs.YtpnoghcdfbmpoaaGreatDoor.PX.X
open Go Go.RowKit Go.Maps Go.Lib Go.Proofs.YtpnoghcdfbmpoaaGreatDoorW.PrintWords Go.Proofs.YtpnoghcdfbmpoaaGreatDoor.PX
set_option linter.unusedVariables false
theorem lawS : Keyed Tryz.prog 9 := string_keyed Tryz.underlying9
theorem zeroB (w : World) : (zeroValue 4).run Tryz.prog w = .ok (.bool false) w := by kernel_rfl
def Seen (w : World) (b : Nat) (L : List ByteArray) : Prop := ∃ D : DataW Unit, w.ownsMap Tryz.prog 9 (plainElem Tryz.prog 4) b L.length D ∧ ∀ x : ByteArray, D.atKey (.string x.data.toList) (.lit (.bool false)) = .lit (.bool (hasB L x))
theorem seen_new (w : World) : Seen (w.alloc (.map #[] 0)) w.heap.size [] := ⟨.map [], World.ownsMap_made _ _ _ _, fun x => rfl⟩
theorem seen_kept {w w' : World} {b : Nat} {L : List ByteArray} {row : Option Nat} (h : Seen w b L) (hg : w.grownBy w' row) (hne : some b ≠ row) : Seen w' b L := by
 obtain ⟨D, h1, h2⟩ := h
 exact ⟨D, h1.kept hg hne, h2⟩
theorem seen_below {w w' : World} {b : Nat} {L : List ByteArray} (h : Seen w b L) (hb : Below w.heap.size w w') : Seen w' b L := by
 obtain ⟨D, ⟨es, clock, hc, r⟩, h2⟩ := h
 exact ⟨D, ⟨es, clock, (hb.block b (Array.getElem?_eq_some_iff.1 hc).1).trans hc, r⟩, h2⟩
theorem plainB_inv {P : Program} {e : TypeId} (hu : P.underlying e = some .bool) {v : Value} {z : DataW Unit × List MemPlace} (h : plainElem P e v = some z) : ∃ c, v = .bool c ∧ z.1 = .lit (.bool c) := by
 cases v with
 | bool c =>
   rw [plainElem_bool hu] at h
   exact ⟨c, rfl, (congrArg Prod.fst (Option.some.inj h)).symm⟩
 | _ =>
   unfold plainElem at h
   rw [hu] at h
   cases h
theorem lookB {P : Program} {t k e : TypeId} {w : World} {b n : Nat} {D : DataW Unit} (h : w.ownsMap P k (plainElem P e) b n D) (K : Keyed P k) (ht : P.underlying t = some (.map k e)) (he : P.underlying e = some .bool) (hz : (zeroValue e).run P w = .ok (.bool false) w) {key : Value} {kl : Lit} (hkey : keyOf P k key = some kl) {c : Bool} (hat : D.atKey kl (.lit (.bool false)) = .lit (.bool c)) : (Instr.lookup t (.map (some b)) key false).run P w = .ok (.bool c) w := by
 obtain ⟨v, ps, hrun, hv⟩ := h.lookup K ht hz (plainElem_bool he false) hkey
 rw [hat] at hv
 obtain ⟨d, rfl, hc⟩ := plainB_inv he hv
 have hc2 : DataW.lit (Lit.bool c) = DataW.lit (Lit.bool d) := hc
 injection hc2 with hc2
 injection hc2 with hc2
 rw [hrun, hc2]
theorem seen_look {w : World} {b : Nat} {L : List ByteArray} (h : Seen w b L) (x : ByteArray) (hx : x.size ≤ maxLen) : (Instr.lookup 94 (.map (some b)) (.string x) false).run Tryz.prog w = .ok (.bool (hasB L x)) w := by
 obtain ⟨D, h1, h2⟩ := h
 exact lookB h1 lawS Tryz.underlying94 Tryz.underlying4 (zeroB w) (WideMaps.keyOf_string_mk Tryz.underlying9 hx) (h2 x)
theorem toL_inj {a b : ByteArray} (h : a.data.toList = b.data.toList) : a = b := by
 cases a; cases b
 congr 1
 exact Array.toList_inj.1 h
theorem seen_put {L : List ByteArray} {x : ByteArray} {D : DataW Unit} (hm : IsMap D) (h2 : ∀ y : ByteArray, D.atKey (.string y.data.toList) (.lit (.bool false)) = .lit (.bool (hasB L y))) (y : ByteArray) : (D.put (.string x.data.toList) (.lit (.bool true))).atKey (.string y.data.toList) (.lit (.bool false)) = .lit (.bool (hasB (L ++ [x]) y)) := by
 have e : hasB (L ++ [x]) y = (hasB L y || decide (x = y)) := by
  unfold hasB
  rw [List.any_append]
  simp
 rw [e]
 by_cases hy : y = x
 · subst hy
   rw [atKey_put_same hm (show WideAt.IsKeyLit (.string y.data.toList) from trivial), decide_eq_true rfl, Bool.or_true]
 · rw [atKey_put_other (fun z => hy (toL_inj (Lit.string.inj z))), h2 y, decide_eq_false (fun z => hy z.symm), Bool.or_false]
theorem seen_store (w : World) {ops : Array Oper} {rest : List Oper} {o : Oper} {a : Act} {Q : Exit → Act → World → Prop} (hg : o.guard = none) (m x v : Operand) (hop : o.op = Op.mapUpdate 94 m x v) (b : Nat) (L : List ByteArray) (hm : a.eval m = .map (some b)) (h : Seen w b L) (hn : L.length < maxLen) (key : ByteArray) (hx : a.eval x = .string key) (hv : a.eval v = .bool true) (hk : key.size ≤ maxLen)
 (hK : ∀ w', Seen w' b (L ++ [key]) → w.grownBy w' (some b) → wpList Tryz.prog ops Q rest (a.put o.dst undef) w') : wpList Tryz.prog ops Q (o :: rest) a w := by
 obtain ⟨D, h1, h2⟩ := h
 exact wpList_mapUpdate_own w hg m x v _ hop _ _ lawS Tryz.underlying94 _ b L.length D hm h1 hn (.string key) (.bool true) (.string key.data.toList) hx hv (WideMaps.keyOf_string_mk Tryz.underlying9 hk) (.lit (.bool true)) [] (plainElem_bool Tryz.underlying4 true) (fun w' hw hgr => hK w' ⟨_, by rw [List.length_append]; exact hw, seen_put h1.isMap h2⟩ hgr)
abbrev CoL := List (ByteArray × Int × ByteArray)
def coV : CoL → ByteArray → Int × ByteArray
 | [], _ => (0, ⟨#[]⟩)
 | p :: M, y => if p.1 = y then p.2 else coV M y
def dC (c : Int × ByteArray) : DataW Unit := .agg [.lit (.int .i64 c.1), .lit (.string c.2.data.toList)]
def readC : Value → Option (DataW Unit × List MemPlace)
 | .agg ⟨[.string _, .slice _ _ _, .int .i64 t, .string n]⟩ => some (dC (t, n), [])
 | _ => none
theorem readC_inv {v : Value} {z : DataW Unit × List MemPlace} (h : readC v = some z) : ∃ a A l c t n, v = .agg #[.string a, .slice A l c, .int .i64 t, .string n] ∧ z.1 = dC (t, n) := by
 unfold readC at h
 split at h
 · rename_i a A l c t n
   exact ⟨a, A, l, c, t, n, rfl, (congrArg Prod.fst (Option.some.inj h)).symm⟩
 · cases h
theorem dC_inj {c d : Int × ByteArray} (h : dC c = dC d) : c = d := by
 have h1 := DataW.agg.inj h
 have h2 := List.cons.inj h1
 have h3 := (Lit.int.inj (DataW.lit.inj h2.1)).2
 have h4 := Lit.string.inj (DataW.lit.inj (List.cons.inj h2.2).1)
 exact Prod.ext h3 (toL_inj h4)
theorem zeroC (w : World) : (zeroValue 60).run Tryz.prog w = .ok (.agg #[.string ⟨#[]⟩, .slice none 0 0, .int .i64 0, .string ⟨#[]⟩]) w := Tryz.zeroValue60 w
def CoMap (w : World) (b : Nat) (M : CoL) : Prop := ∃ D : DataW Unit, w.ownsMap Tryz.prog 9 readC b M.length D ∧ ∀ x : ByteArray, D.atKey (.string x.data.toList) (dC (0, ⟨#[]⟩)) = dC (coV M x)
theorem co_new (w : World) : CoMap (w.alloc (.map #[] 0)) w.heap.size [] := ⟨.map [], World.ownsMap_made _ _ _ _, fun x => rfl⟩
theorem co_block {w w' : World} {b : Nat} {M : CoL} (h : CoMap w b M) (hb : w'.heap[b]? = w.heap[b]?) : CoMap w' b M := by
 obtain ⟨D, ⟨es, clock, hc, r⟩, h2⟩ := h
 exact ⟨D, ⟨es, clock, hb.trans hc, r⟩, h2⟩
theorem co_lt {w : World} {b : Nat} {M : CoL} (h : CoMap w b M) : b < w.heap.size := by
 obtain ⟨D, h1, _⟩ := h
 exact h1.lt
theorem co_below {w w' : World} {b : Nat} {M : CoL} (h : CoMap w b M) (hb : Below w.heap.size w w') : CoMap w' b M := co_block h (hb.block b (co_lt h))
theorem co_put {M : CoL} {x : ByteArray} {v : Int × ByteArray} {D : DataW Unit} (hm : IsMap D) (h2 : ∀ y : ByteArray, D.atKey (.string y.data.toList) (dC (0, ⟨#[]⟩)) = dC (coV M y)) (y : ByteArray) :
 (D.put (.string x.data.toList) (dC v)).atKey (.string y.data.toList) (dC (0, ⟨#[]⟩)) = dC (coV ((x, v) :: M) y) := by
 unfold coV
 by_cases hy : x = y
 · subst hy
   rw [if_pos rfl, atKey_put_same hm (show WideAt.IsKeyLit (.string x.data.toList) from trivial)]
 · have hne : Lit.string y.data.toList ≠ Lit.string x.data.toList := fun z => hy (toL_inj (Lit.string.inj z)).symm
   rw [if_neg hy, atKey_put_other hne]
   exact h2 y
theorem co_look {w : World} {b : Nat} {M : CoL} (h : CoMap w b M) (x : ByteArray) (hx : x.size ≤ maxLen) : ∃ a A l c, (Instr.lookup 73 (.map (some b)) (.string x) false).run Tryz.prog w = .ok (.agg #[.string a, .slice A l c, .int .i64 (coV M x).1, .string (coV M x).2]) w := by
 obtain ⟨D, h1, h2⟩ := h
 obtain ⟨v, ps, hrun, hv⟩ := h1.lookup lawS Tryz.underlying73 (zeroC w) (show readC _ = some (dC (0, ⟨#[]⟩), []) from rfl) (WideMaps.keyOf_string_mk Tryz.underlying9 hx)
 rw [h2 x] at hv
 obtain ⟨a, A, l, c, t, n, rfl, hz⟩ := readC_inv hv
 have e := dC_inj hz
 rw [e]
 exact ⟨a, A, l, c, hrun⟩
theorem co_look_all {w : World} {b : Nat} {M : CoL} (h : CoMap w b M) (x : ByteArray) (hx : x.size ≤ maxLen) : ∃ a A l c, ∀ W : World, W.heap[b]? = w.heap[b]? → (Instr.lookup 73 (.map (some b)) (.string x) false).run Tryz.prog W = .ok (.agg #[.string a, .slice A l c, .int .i64 (coV M x).1, .string (coV M x).2]) W := by
 obtain ⟨a, A, l, c, hrun⟩ := co_look h x hx
 obtain ⟨D, ⟨es, clock, hb, F, hs, hD⟩, h2⟩ := h
 have hkey := WideMaps.keyOf_string_mk Tryz.underlying9 hx
 have hks : ∀ e ∈ es.toList, MapKept.IsKey .string e.key := fun e he => by
  obtain ⟨kl, hkl⟩ := F.keys e he
  obtain ⟨s', e2, _, _⟩ := WideMaps.string_of_keyOf Tryz.underlying9 hkl
  rw [e2]
  trivial
 have key : ∃ V, ∀ W : World, W.heap[b]? = w.heap[b]? → (Instr.lookup 73 (.map (some b)) (.string x) false).run Tryz.prog W = .ok V W := by
  rcases MapKept.findNow_spec (d := .string) (k := .string x) trivial es.toList 0 hks with ⟨h1, _⟩ | ⟨j, e0, h1, _, _⟩
  · refine ⟨.agg #[.string ⟨#[]⟩, .slice none 0 0, .int .i64 0, .string ⟨#[]⟩], fun W hW => ?_⟩
    simp [Instr.lookup, run_underlying Tryz.underlying73, MapKept.run_getObj_map (hW.trans hb), lawS.check W _ hkey, MapKept.run_findKey Tryz.underlying9 h1, zeroC W, Result.andThen]
  · refine ⟨e0.val, fun W hW => ?_⟩
    simp [Instr.lookup, run_underlying Tryz.underlying73, MapKept.run_getObj_map (hW.trans hb), lawS.check W _ hkey, MapKept.run_findKey Tryz.underlying9 h1, Result.andThen]
 obtain ⟨V, hV⟩ := key
 have e := (hV w rfl).symm.trans hrun
 injection e with e _
 exact ⟨a, A, l, c, fun W hW => by rw [← e]; exact hV W hW⟩
theorem co_store {w : World} {b : Nat} {M : CoL} (h : CoMap w b M) (hn : M.length < maxLen) (x : ByteArray) (hx : x.size ≤ maxLen) (a : ByteArray) (A : Option Addr) (l c : Nat) (t : Int) (n : ByteArray) :
 ∃ w', (Instr.mapUpdate 73 (.map (some b)) (.string x) (.agg #[.string a, .slice A l c, .int .i64 t, .string n])).run Tryz.prog w = .ok () w' ∧ CoMap w' b ((x, t, n) :: M) ∧ w.grownBy w' (some b) := by
 obtain ⟨D, h1, h2⟩ := h
 obtain ⟨w', hrun, hw, hg⟩ := h1.update lawS Tryz.underlying73 hn (WideMaps.keyOf_string_mk Tryz.underlying9 hx) (show readC (.agg #[.string a, .slice A l c, .int .i64 t, .string n]) = some (dC (t, n), []) from rfl)
 exact ⟨w', hrun, ⟨_, by rw [List.length_cons]; exact hw, co_put h1.isMap h2⟩, hg⟩
theorem field_time (a : ByteArray) (A : Option Addr) (l c : Nat) (t : Int) (n : ByteArray) (w : World) : (Instr.field 60 (.agg #[.string a, .slice A l c, .int .i64 t, .string n]) 2).run Tryz.prog w = .ok (.int .i64 t) w := by kernel_rfl
theorem field_note (a : ByteArray) (A : Option Addr) (l c : Nat) (t : Int) (n : ByteArray) (w : World) : (Instr.field 60 (.agg #[.string a, .slice A l c, .int .i64 t, .string n]) 3).run Tryz.prog w = .ok (.string n) w := by kernel_rfl
end Go.Proofs.YtpnoghcdfbmpoaaGreatDoor.PX.X
