/- Texts of this claim set one behind another by wip/bundle.py: XAppD, XAppL. -/
import Derived.Test.YtjibadlbiapcmaaDoorBAD17
import Derived.Test.YtjibadlbiapcmaaDoorBAD10
import Derived.Test.YtjibadlbiapcmaaDoorBAD1
import Derived.Test.YtjibadlbiapcmaaDoorBAD19
import Derived.Shelf.Small.Strs
import Derived.Test.YtjibadlbiapcmaaDoorBAD15
import Derived.Test.YtjibadlbiapcmaaDoorBAD13
namespace Go.Proofs.YtjibadlbiapcmaaDoor.PX.X
open Go Go.RowKit Go.Lib Go.Proofs.YtjibadlbiapcmaaDoorW.PrintWords Go.Proofs.YtjibadlbiapcmaaDoor.PX
set_option linter.unusedVariables false
abbrev DeltaT := S108
def eqF (x y : FileT) : Bool := (x.f0.toList == y.f0.toList) && ((x.f1 == y.f1) && (x.f2.toList == y.f2.toList))
theorem eqF_iff {x y : FileT} : eqF x y = true ↔ x = y := by
  unfold eqF
  rw [Bool.and_eq_true, Bool.and_eq_true, beq_iff_eq, beq_iff_eq, beq_iff_eq]
  constructor
  · rintro ⟨h1, h2, h3⟩
    obtain ⟨a, b, c⟩ := x
    obtain ⟨a', b', c'⟩ := y
    obtain rfl := YtjibadlbiapcmaaDoorX.toList_inj h1
    obtain rfl := h2
    obtain rfl := YtjibadlbiapcmaaDoorX.toList_inj h3
    rfl
  · rintro rfl
    exact ⟨rfl, rfl, rfl⟩
def eqS (a b : ByteArray) : Bool := a.toList == b.toList
theorem eqS_iff {a b : ByteArray} : eqS a b = true ↔ a = b := by
  unfold eqS
  rw [beq_iff_eq]
  exact ⟨fun h => YtjibadlbiapcmaaDoorX.toList_inj h, fun h => by rw [h]⟩
def cmpP (s : ByteArray) (x : FileT) : Int := Lib.compareBytes x.f0.data.toList s.data.toList
/-- Files without those of a path. -/
def without (l : List FileT) (s : ByteArray) : List FileT := l.filter fun x => !decide (x.f0 = s)
def withV (l : List FileT) (s : ByteArray) (f : FileT) : List FileT := if eqF f z106 = true then without l s else (without l s).take (bsAt (cmpP s) (without l s)) ++ [f] ++ (without l s).drop (bsAt (cmpP s) (without l s))
/-- .. as the reference has it. -/
def withS (l : List FileT) (s : ByteArray) (f : FileT) : List FileT := sortF (if eqF f z106 = true then without l s else without l s ++ [f])
def behind : Option ByteArray → ByteArray → Bool
  | some q, s => lessB q s
  | none, _ => true
def fits (f : FileT) (s : ByteArray) : Bool := eqF f z106 || eqS f.f0 s
def chkD (l : List FileT) (p : Option ByteArray) (d : DeltaT) : Int :=
  if behind p d.f0 = true then (if eqF d.f1 d.f2 = true then 1 else if fits d.f1 d.f0 = true then (if fits d.f2 d.f0 = true then (if eqF (findF l d.f0) d.f1 = true then 0 else 6) else 1) else 1) else 1
/-- The program: looked at and done one by one. -/
def goI (l : List FileT) : Option ByteArray → List DeltaT → List FileT → Sum Int (List FileT)
  | _, [], out => .inr out
  | p, d :: ds, out => if chkD l p d = 0 then goI l (some d.f0) ds (withV out d.f0 d.f2) else .inl (chkD l p d)
/-- The reference: all looked at .. -/
def chkS (l : List FileT) : Option ByteArray → List DeltaT → Int
  | _, [] => 0
  | p, d :: ds => if chkD l p d = 0 then chkS l (some d.f0) ds else chkD l p d
/-- .. then done. -/
def goS : List DeltaT → List FileT → List FileT
  | [], out => out
  | d :: ds, out => goS ds (withS out d.f0 d.f2)
end Go.Proofs.YtjibadlbiapcmaaDoor.PX.X

namespace Go.Proofs.YtjibadlbiapcmaaDoorX
open Go Go.RowKit Go.Proofs.YtjibadlbiapcmaaDoorW.PrintWords Go.Proofs.YtjibadlbiapcmaaDoor.PX
open Go.Proofs.YtjibadlbiapcmaaDoor.PX.X (lessB lessB_irrefl lessB_trans lessB_eq bsAt placeF insF sortF findF eqF eqF_iff eqS eqS_iff cmpP without withV withS behind fits chkD goI chkS goS DeltaT)
set_option linter.unusedVariables false
abbrev fPath (x : IFile) : ByteArray := x.f0
theorem lessB_all {a b : ByteArray} (h : ¬ lessB a b = true) (hn : a ≠ b) : lessB b a = true := by
  rw [lessB_eq, decide_eq_true_eq] at h ⊢
  refine Std.lt_of_le_of_ne (List.not_lt.1 h) (fun z => hn ?_)
  cases a; cases b
  congr 1
  exact (Array.ext' z.symm)
theorem lessB_asym {a b : ByteArray} (h : lessB a b = true) : ¬ lessB b a = true := fun z => by
  have := lessB_trans h z
  rw [lessB_irrefl] at this
  cases this
theorem rise_pair (l : List IFile) : rising fPath l ↔ l.Pairwise fun x y => lessB x.f0 y.f0 = true := by
  rw [List.pairwise_iff_getElem]
  constructor
  · intro h i j hi hj hij
    exact h i j _ _ hij (List.getElem?_eq_getElem hi) (List.getElem?_eq_getElem hj)
  · intro h i j x y hij hx hy
    obtain ⟨hi, rfl⟩ := List.getElem?_eq_some_iff.1 hx
    obtain ⟨hj, rfl⟩ := List.getElem?_eq_some_iff.1 hy
    exact h i j hi hj hij
theorem getDz {l : List IFile} {i : Nat} (h : i < l.length) : l[i]? = some (l.getD i z106) := by
  rw [List.getD_eq_getElem?_getD, List.getElem?_eq_getElem h, Option.getD_some]
theorem place_cnt {l : List IFile} (hr : rising fPath l) (s : ByteArray) (hn : ∀ x ∈ l, x.f0 ≠ s) : ∀ n, cnt (lessK fPath s) l ≤ n → n ≤ l.length → placeF l s n = cnt (lessK fPath s) l
  | 0, h, _ => by
    unfold placeF
    omega
  | n + 1, h, hl => by
    have hx := getDz (l := l) (i := n) (by omega)
    have hc := cut_rising fPath hr s n _ hx
    unfold placeF
    by_cases e : cnt (lessK fPath s) l = n + 1
    · have h1 : lessB (l.getD n z106).f0 s = true := hc.2 (by omega)
      rw [if_neg (lessB_asym h1), e]
    · have h1 : ¬ lessB (l.getD n z106).f0 s = true := fun z => e (by have := hc.1 z; omega)
      rw [if_pos (lessB_all h1 (hn _ (List.mem_of_getElem? hx)))]
      exact place_cnt hr s hn n (by omega) (by omega)
theorem ins_end (acc : List IFile) (x : IFile) (h : ∀ y ∈ acc, lessB y.f0 x.f0 = true) : insF acc x = acc ++ [x] := by
  have e : placeF acc x.f0 acc.length = acc.length := by
    cases hn : acc.length with
    | zero => rfl
    | succ n =>
      unfold placeF
      rw [if_neg]
      exact lessB_asym (h _ (List.mem_of_getElem? (getDz (l := acc) (i := n) (by omega))))
  unfold insF
  rw [e, List.take_length, List.drop_length, List.append_nil]
theorem fold_rise : ∀ (l acc : List IFile), rising fPath (acc ++ l) → l.foldl insF acc = acc ++ l
  | [], acc, _ => (List.append_nil acc).symm
  | x :: l, acc, h => by
    have hp := (rise_pair _).1 h
    rw [List.pairwise_append] at hp
    rw [List.foldl_cons, ins_end acc x (fun y hy => hp.2.2 y hy x List.mem_cons_self)]
    have := fold_rise l (acc ++ [x]) (by rw [List.append_assoc, List.singleton_append]; exact h)
    rw [this, List.append_assoc, List.singleton_append]
theorem sort_rise {l : List IFile} (h : rising fPath l) : sortF l = l := fold_rise l [] h
theorem sort_snoc (l : List IFile) (x : IFile) : sortF (l ++ [x]) = insF (sortF l) x := by
  unfold sortF
  rw [List.foldl_append]
  rfl
theorem without_rise {l : List IFile} (h : rising fPath l) (s : ByteArray) : rising fPath (without l s) := by
  rw [rise_pair] at h ⊢
  exact h.filter _
theorem without_none (l : List IFile) (s : ByteArray) : ∀ x ∈ without l s, x.f0 ≠ s := by
  intro x hx
  have := (List.mem_filter.1 hx).2
  simpa using this
theorem ins_rise {l : List IFile} (hr : rising fPath l) (s : ByteArray) (x : IFile) (hx : x.f0 = s) (hn : ∀ y ∈ l, y.f0 ≠ s) : rising fPath (l.take (cnt (lessK fPath s) l) ++ [x] ++ l.drop (cnt (lessK fPath s) l)) := by
  have hp := (rise_pair l).1 hr
  rw [rise_pair]
  rw [← List.take_append_drop (cnt (lessK fPath s) l) l, List.pairwise_append] at hp
  obtain ⟨p1, p2, p3⟩ := hp
  have ha : ∀ y ∈ l.take (cnt (lessK fPath s) l), lessB y.f0 s = true := fun y hy => by
    obtain ⟨i, hi, he⟩ := List.mem_iff_getElem.1 hy
    rw [List.length_take] at hi
    have hiy : l[i]? = some y := by
      rw [List.getElem_take] at he
      rw [← he]
      exact List.getElem?_eq_getElem _
    exact (cut_rising fPath hr s i y hiy).2 (by omega)
  have hb : ∀ y ∈ l.drop (cnt (lessK fPath s) l), lessB s y.f0 = true := fun y hy => by
    obtain ⟨i, hi, he⟩ := List.mem_iff_getElem.1 hy
    rw [List.length_drop] at hi
    have hiy : l[cnt (lessK fPath s) l + i]? = some y := by
      rw [List.getElem_drop] at he
      rw [← he]
      exact List.getElem?_eq_getElem _
    have h1 : ¬ lessB y.f0 s = true := fun z => by
      have := (cut_rising fPath hr s _ y hiy).1 z
      omega
    exact lessB_all h1 (hn y (List.mem_of_getElem? hiy))
  rw [List.append_assoc, List.pairwise_append]
  refine ⟨p1, ?_, ?_⟩
  · rw [List.singleton_append, List.pairwise_cons]
    exact ⟨fun y hy => by rw [hx]; exact hb y hy, p2⟩
  · intro y hy z hz
    rcases List.mem_append.1 hz with hz | hz
    · rw [List.mem_singleton.1 hz, hx]
      exact ha y hy
    · exact p3 y hy z hz
theorem with_rise {l : List IFile} (hr : rising fPath l) (s : ByteArray) (f : IFile) (hf : fits f s = true) : rising fPath (withV l s f) := by
  have h1 := without_rise hr s
  unfold withV
  by_cases he : eqF f z106 = true
  · rw [if_pos he]
    exact h1
  · rw [if_neg he]
    unfold fits at hf
    rw [Bool.or_eq_true] at hf
    have hs : f.f0 = s := eqS_iff.1 (hf.resolve_left he)
    rw [show bsAt (cmpP s) (without l s) = cnt (lessK fPath s) (without l s) from bs_rising fPath h1 s]
    exact ins_rise h1 s f hs (without_none l s)
theorem with_same {l : List IFile} (hr : rising fPath l) (s : ByteArray) (f : IFile) (hf : fits f s = true) : withS l s f = withV l s f := by
  have h1 := without_rise hr s
  unfold withS withV
  by_cases he : eqF f z106 = true
  · rw [if_pos he, if_pos he]
    exact sort_rise h1
  · rw [if_neg he, if_neg he]
    unfold fits at hf
    rw [Bool.or_eq_true] at hf
    have hs : f.f0 = s := eqS_iff.1 (hf.resolve_left he)
    rw [show bsAt (cmpP s) (without l s) = cnt (lessK fPath s) (without l s) from bs_rising fPath h1 s, sort_snoc, sort_rise h1]
    unfold insF
    rw [hs, place_cnt h1 s (without_none l s) _ (cnt_le _ _) (Nat.le_refl _)]
theorem chkD_fits {l : List IFile} {p : Option ByteArray} {d : DeltaT} (h : chkD l p d = 0) : fits d.f2 d.f0 = true := by
  unfold chkD at h
  cases hf : fits d.f2 d.f0 with
  | true => rfl
  | false =>
    rw [hf] at h
    simp only [Bool.false_eq_true, if_false] at h
    split at h
    · split at h
      · exact absurd h (by decide)
      · split at h
        · exact absurd h (by decide)
        · exact absurd h (by decide)
    · exact absurd h (by decide)
/-- Both come to one. -/
theorem go_same (l : List IFile) : ∀ (ds : List DeltaT) (p : Option ByteArray) (out : List IFile), rising fPath out → goI l p ds out = if chkS l p ds = 0 then .inr (goS ds out) else .inl (chkS l p ds)
  | [], p, out, _ => by
    show Sum.inr out = if (0 : Int) = 0 then Sum.inr out else _
    rw [if_pos rfl]
  | d :: ds, p, out, hr => by
    unfold goI chkS goS
    by_cases h : chkD l p d = 0
    · rw [if_pos h, if_pos h, with_same hr d.f0 d.f2 (chkD_fits h)]
      exact go_same l ds _ _ (with_rise hr d.f0 d.f2 (chkD_fits h))
    · rw [if_neg h, if_neg h, if_neg h]
/-! ### lengths and sizes -/
theorem withV_len (l : List IFile) (s : ByteArray) (f : IFile) : (withV l s f).length ≤ l.length + 1 := by
  have h : (without l s).length ≤ l.length := List.length_filter_le _ _
  unfold withV
  split
  · omega
  · rw [List.length_append, List.length_append, List.length_take, List.length_drop, List.length_singleton]
    omega
theorem withV_mem {l : List IFile} {s : ByteArray} {f x : IFile} (h : x ∈ withV l s f) : x ∈ l ∨ x = f := by
  have hw : ∀ y, y ∈ without l s → y ∈ l := fun y hy => (List.mem_filter.1 hy).1
  unfold withV at h
  split at h
  · exact .inl (hw x h)
  · rcases List.mem_append.1 h with h | h
    · rcases List.mem_append.1 h with h | h
      · exact .inl (hw x (List.mem_of_mem_take h))
      · exact .inr (List.mem_singleton.1 h)
    · exact .inl (hw x (List.mem_of_mem_drop h))
theorem goI_len (l : List IFile) : ∀ (ds : List DeltaT) (p : Option ByteArray) (out r : List IFile), goI l p ds out = .inr r → r.length ≤ out.length + ds.length
  | [], p, out, r, h => by
    rw [← Sum.inr.inj h]
    exact Nat.le_refl _
  | d :: ds, p, out, r, h => by
    unfold goI at h
    split at h
    · have h1 := goI_len l ds _ _ r h
      have h2 := withV_len out d.f0 d.f2
      rw [List.length_cons]
      omega
    · cases h
theorem goI_mem (l : List IFile) : ∀ (ds : List DeltaT) (p : Option ByteArray) (out r : List IFile), goI l p ds out = .inr r → ∀ x ∈ r, x ∈ out ∨ ∃ d ∈ ds, x = d.f2
  | [], p, out, r, h, x, hx => by
    rw [← Sum.inr.inj h] at hx
    exact .inl hx
  | d :: ds, p, out, r, h, x, hx => by
    unfold goI at h
    split at h
    · rcases goI_mem l ds _ _ r h x hx with h1 | ⟨e, he, h1⟩
      · rcases withV_mem h1 with h2 | h2
        · exact .inl h2
        · exact .inr ⟨d, List.mem_cons_self, h2⟩
      · exact .inr ⟨e, List.mem_cons_of_mem _ he, h1⟩
    · cases h
end Go.Proofs.YtjibadlbiapcmaaDoorX
