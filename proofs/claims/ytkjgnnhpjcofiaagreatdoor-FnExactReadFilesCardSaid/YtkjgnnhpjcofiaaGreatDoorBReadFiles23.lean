/- Texts of this claim set one behind another by wip/bundle.py: XSortD, XReadP, XReadE, XReadW, XSortO. -/
import Derived.Test.YtkjgnnhpjcofiaaGreatDoorBReadFiles21
import Derived.Test.YtkjgnnhpjcofiaaGreatDoorBReadFiles3
namespace Go.Proofs.YtkjgnnhpjcofiaaGreatDoor.PX.X
open Go Go.RowKit Go.Lib Go.Proofs.YtkjgnnhpjcofiaaGreatDoorW.PrintWords Go.Proofs.YtkjgnnhpjcofiaaGreatDoor.PX
set_option linter.unusedVariables false
def placeF (l : List FileT) (s : ByteArray) : Nat → Nat
 | 0 => 0
 | n + 1 => if lessB s (l.getD n z75).f0 = true then placeF l s n else n + 1
def insF (l : List FileT) (x : FileT) : List FileT := (l.take (placeF l x.f0 l.length) ++ [x]) ++ l.drop (placeF l x.f0 l.length)
def sortF (l : List FileT) : List FileT := l.foldl insF []
theorem insF_len (l : List FileT) (x : FileT) : (insF l x).length = l.length + 1 := by
 unfold insF
 rw [List.length_append, List.length_append, List.length_take, List.length_drop, List.length_singleton]
 omega
theorem sortF_len (l : List FileT) : ∀ acc : List FileT, (l.foldl insF acc).length = acc.length + l.length := by
 induction l with
 | nil => intro acc; rfl
 | cons x l ih =>
   intro acc
   rw [List.foldl_cons, ih, insF_len, List.length_cons]
   omega
theorem sortF_snoc (l : List FileT) (x : FileT) : sortF (l ++ [x]) = insF (sortF l) x := by
 unfold sortF
 rw [List.foldl_append]
 rfl
end Go.Proofs.YtkjgnnhpjcofiaaGreatDoor.PX.X

namespace Go.Proofs.YtkjgnnhpjcofiaaGreatDoor.PX.X
open Go Go.RowKit Go.Lib Go.Proofs.YtkjgnnhpjcofiaaGreatDoorW.PrintWords Go.Proofs.YtkjgnnhpjcofiaaGreatDoor.PX
set_option linter.unusedVariables false
set_option linter.unusedSimpArgs false
abbrev EntT := S118
abbrev WalkT := Option (Int × Int × List FileT)
def walkE (g : Int → ByteArray → ByteArray → Int → WalkT) : List EntT → Int → ByteArray → Int → WalkT
 | [], n, _, _ => some (0, n, [])
 | e :: es, n, p, d => if d = 4 then some (2, n, []) else if e.f1 = 3 then (g n e.f2 ((p ++ e.f0) ++ (⟨#[47]⟩ : ByteArray)) (d + 1)).bind fun r => (if r.1 = 0 then (walkE g es r.2.1 p d).bind fun s => some (s.1, s.2.1, r.2.2 ++ s.2.2) else some (r.1, r.2.1, []))
   else (walkE g es n p d).bind fun s => some (s.1, s.2.1, (⟨p ++ e.f0, e.f1, e.f2⟩ : FileT) :: s.2.2)
def walkV (nd : ByteArray → Int × List EntT) : Nat → Int → ByteArray → ByteArray → Int → WalkT
 | 0, _, _, _, _ => none
 | k + 1, n, t, p, d => if n = 200 then some (2, n, []) else if (nd t).1 = 0 then walkE (walkV nd k) (nd t).2 (n + 1) p d else some ((nd t).1, n + 1, [])
structure GoodN (nd : ByteArray → Int × List EntT) : Prop where
 len : ∀ t, (nd t).2.length ≤ 100
 sz : ∀ t, ∀ e ∈ (nd t).2, e.f0.size ≤ 12
 sep : ∀ t, ∀ e ∈ (nd t).2, ∀ b ∈ e.f0.data.toList, b ≠ 47
 nd : ∀ t, ((nd t).2.map fun e => e.f0.data.toList).Nodup
theorem walkE_len (g : Int → ByteArray → ByteArray → Int → WalkT) (hg : ∀ n t p d n' out, n ≤ 200 → g n t p d = some (0, n', out) → n ≤ n' ∧ n' ≤ 200 ∧ (out.length : Int) + 100 * (200 - n') ≤ 100 * (200 - n)) :
 ∀ (es : List EntT) (n : Int) (p : ByteArray) (d n' : Int) (out : List FileT), n ≤ 200 → walkE g es n p d = some (0, n', out) → n ≤ n' ∧ n' ≤ 200 ∧ (out.length : Int) + 100 * (200 - n') ≤ 100 * (200 - n) + es.length
 | [], n, p, d, n', out, hn, h => by
   simp only [walkE, Option.some.injEq, Prod.mk.injEq] at h
   obtain ⟨_, rfl, rfl⟩ := h
   refine ⟨by omega, hn, by simp⟩
 | e :: es, n, p, d, n', out, hn, h => by
   unfold walkE at h
   by_cases h4 : d = 4
   · rw [if_pos h4] at h
     cases h
   · rw [if_neg h4] at h
     by_cases h3 : e.f1 = 3
     · rw [if_pos h3] at h
       obtain ⟨⟨c, n1, o1⟩, h1, h⟩ := Option.bind_eq_some_iff.mp h
       simp only at h
       by_cases hc : c = 0
       · subst hc
         rw [if_pos rfl] at h
         obtain ⟨⟨c2, n2, o2⟩, h2, h⟩ := Option.bind_eq_some_iff.mp h
         simp only [Option.some.injEq, Prod.mk.injEq] at h
         obtain ⟨rfl, rfl, rfl⟩ := h
         obtain ⟨a1, a2, a3⟩ := hg _ _ _ _ _ _ hn h1
         obtain ⟨b1, b2, b3⟩ := walkE_len g hg es n1 p d n2 o2 a2 h2
         simp only [List.length_append, List.length_cons]
         omega
       · rw [if_neg hc] at h
         simp only [Option.some.injEq, Prod.mk.injEq] at h
         exact absurd h.1 hc
     · rw [if_neg h3] at h
       obtain ⟨⟨c2, n2, o2⟩, h2, h⟩ := Option.bind_eq_some_iff.mp h
       simp only [Option.some.injEq, Prod.mk.injEq] at h
       obtain ⟨rfl, rfl, rfl⟩ := h
       obtain ⟨b1, b2, b3⟩ := walkE_len g hg es n p d n2 o2 hn h2
       simp only [List.length_cons]
       omega
theorem walkV_len {nd : ByteArray → Int × List EntT} (G : GoodN nd) : ∀ (k : Nat) (n : Int) (t p : ByteArray) (d n' : Int) (out : List FileT), n ≤ 200 → walkV nd k n t p d = some (0, n', out) → n ≤ n' ∧ n' ≤ 200 ∧ (out.length : Int) + 100 * (200 - n') ≤ 100 * (200 - n)
 | 0, n, t, p, d, n', out, hn, h => by cases h
 | k + 1, n, t, p, d, n', out, hn, h => by
   unfold walkV at h
   by_cases h2 : n = 200
   · rw [if_pos h2] at h
     cases h
   · rw [if_neg h2] at h
     by_cases hc : (nd t).1 = 0
     · rw [if_pos hc] at h
       obtain ⟨b1, b2, b3⟩ := walkE_len (walkV nd k) (fun n t p d n' out hn h => walkV_len G k n t p d n' out hn h) _ _ _ _ _ _ zq7 h
       have := G.len t
       omega
     · rw [if_neg hc] at h
       simp only [Option.some.injEq, Prod.mk.injEq] at h
       exact absurd h.1 hc
theorem walkE_some (g : Int → ByteArray → ByteArray → Int → WalkT) (d : Int) (hg : d = 4 ∨ ∀ n t p, ∃ r, g n t p (d + 1) = some r) : ∀ (es : List EntT) (n : Int) (p : ByteArray), ∃ r, walkE g es n p d = some r
 | [], n, p => ⟨_, rfl⟩
 | e :: es, n, p => by
   unfold walkE
   by_cases h4 : d = 4
   · rw [if_pos h4]
     exact ⟨_, rfl⟩
   · rw [if_neg h4]
     have hg := hg.resolve_left h4
     by_cases h3 : e.f1 = 3
     · rw [if_pos h3]
       obtain ⟨r, hr⟩ := hg n e.f2 ((p ++ e.f0) ++ (⟨#[47]⟩ : ByteArray))
       rw [hr, Option.bind_some]
       by_cases hc : r.1 = 0
       · rw [if_pos hc]
         obtain ⟨s, hs⟩ := walkE_some g d (.inr hg) es r.2.1 p
         rw [hs, Option.bind_some]
         exact ⟨_, rfl⟩
       · rw [if_neg hc]
         exact ⟨_, rfl⟩
     · rw [if_neg h3]
       obtain ⟨s, hs⟩ := walkE_some g d (.inr hg) es n p
       rw [hs, Option.bind_some]
       exact ⟨_, rfl⟩
theorem walkV_some (nd : ByteArray → Int × List EntT) : ∀ (k : Nat) (n : Int) (t p : ByteArray) (d : Int), d ≤ 4 → 4 - d < k → ∃ r, walkV nd k n t p d = some r
 | 0, n, t, p, d, h1, h2 => by omega
 | k + 1, n, t, p, d, h1, h2 => by
   unfold walkV
   by_cases h3 : n = 200
   · rw [if_pos h3]
     exact ⟨_, rfl⟩
   · rw [if_neg h3]
     by_cases hc : (nd t).1 = 0
     · rw [if_pos hc]
       refine walkE_some _ d ?_ _ _ _
       by_cases h4 : d = 4
       · exact .inl h4
       · exact .inr fun n t p => walkV_some nd k n t p (d + 1) zq7 zq7
     · rw [if_neg hc]
       exact ⟨_, rfl⟩
def pthL (x : FileT) : List UInt8 := x.f0.data.toList
def keyL (n : Nat) (l : List UInt8) : List UInt8 := (l.drop n).takeWhile fun b => b != 47
theorem take_sep : ∀ (nm r : List UInt8), (∀ b ∈ nm, b ≠ 47) → (r = [] ∨ ∃ r', r = 47 :: r') → (nm ++ r).takeWhile (fun b => b != 47) = nm
 | [], r, _, hr => by
   rcases hr with rfl | ⟨r', rfl⟩
   · rfl
   · rfl
 | b :: nm, r, h, hr => by
   have hb : (b != 47) = true := bne_iff_ne.mpr (h b List.mem_cons_self)
   rw [List.cons_append, List.takeWhile_cons, if_pos hb, take_sep nm r (fun c hc => h c (List.mem_cons_of_mem _ hc)) hr]
theorem key_of (p nm r : List UInt8) (h : ∀ b ∈ nm, b ≠ 47) (hr : r = [] ∨ ∃ r', r = 47 :: r') : keyL p.length (p ++ (nm ++ r)) = nm := by
 unfold keyL
 rw [List.drop_left, take_sep nm r h hr]
theorem app_list (a b : ByteArray) : (a ++ b).data.toList = a.data.toList ++ b.data.toList := by
 rw [ByteArray.data_append, Array.toList_append]
theorem nodup_app {l m : List (List UInt8)} (hl : l.Nodup) (hm : m.Nodup) (h : ∀ x ∈ l, ∀ y ∈ m, x ≠ y) : (l ++ m).Nodup := List.nodup_append.2 ⟨hl, hm, h⟩
theorem walkE_apart (g : Int → ByteArray → ByteArray → Int → WalkT) (hg : ∀ n t p d r, g n t p d = some r → (∀ x ∈ r.2.2, ∃ q, pthL x = p.data.toList ++ q) ∧ (r.2.2.map pthL).Nodup) :
 ∀ (es : List EntT) (n : Int) (p : ByteArray) (d : Int) (r : Int × Int × List FileT), (∀ e ∈ es, ∀ b ∈ e.f0.data.toList, b ≠ 47) → (es.map fun e => e.f0.data.toList).Nodup → walkE g es n p d = some r →
  (∀ x ∈ r.2.2, ∃ e ∈ es, ∃ q, pthL x = p.data.toList ++ (e.f0.data.toList ++ q) ∧ (q = [] ∨ ∃ q', q = 47 :: q')) ∧ (r.2.2.map pthL).Nodup
 | [], n, p, d, r, _, _, h => by
   simp only [walkE, Option.some.injEq] at h
   subst h
   exact ⟨fun x hx => (by cases hx), List.nodup_nil⟩
 | e :: es, n, p, d, r, hs, hn, h => by
   rw [List.map_cons, List.nodup_cons] at hn
   unfold walkE at h
   by_cases h4 : d = 4
   · rw [if_pos h4] at h
     obtain rfl := Option.some.inj h
     exact ⟨fun x hx => (by cases hx), List.nodup_nil⟩
   · rw [if_neg h4] at h
     have key : ∀ (o1 o2 : List FileT), (∀ x ∈ o1, ∃ q, pthL x = p.data.toList ++ (e.f0.data.toList ++ q) ∧ (q = [] ∨ ∃ q', q = 47 :: q')) → (o1.map pthL).Nodup →
      (∀ x ∈ o2, ∃ e ∈ es, ∃ q, pthL x = p.data.toList ++ (e.f0.data.toList ++ q) ∧ (q = [] ∨ ∃ q', q = 47 :: q')) → (o2.map pthL).Nodup →
      (∀ x ∈ o1 ++ o2, ∃ e' ∈ e :: es, ∃ q, pthL x = p.data.toList ++ (e'.f0.data.toList ++ q) ∧ (q = [] ∨ ∃ q', q = 47 :: q')) ∧ ((o1 ++ o2).map pthL).Nodup := by
      intro o1 o2 a1 a2 b1 b2
      refine ⟨fun x hx => ?_, ?_⟩
      · rcases List.mem_append.1 hx with hx | hx
        · exact ⟨e, List.mem_cons_self, a1 x hx⟩
        · obtain ⟨e', he', hq⟩ := b1 x hx
          exact ⟨e', List.mem_cons_of_mem _ he', hq⟩
      · rw [List.map_append]
        refine nodup_app a2 b2 fun u hu v hv huv => ?_
        obtain ⟨x, hx, rfl⟩ := List.mem_map.1 hu
        obtain ⟨y, hy, rfl⟩ := List.mem_map.1 hv
        obtain ⟨q, hq, hq2⟩ := a1 x hx
        obtain ⟨e', he', q', hq', hq2'⟩ := b1 y hy
        have k1 := key_of p.data.toList e.f0.data.toList q (hs e List.mem_cons_self) hq2
        have k2 := key_of p.data.toList e'.f0.data.toList q' (hs e' (List.mem_cons_of_mem _ he')) hq2'
        rw [← hq, huv, hq', k2] at k1
        exact hn.1 (List.mem_map.2 ⟨e', he', k1⟩)
     have hs' := fun e' (he' : e' ∈ es) => hs e' (List.mem_cons_of_mem _ he')
     by_cases h3 : e.f1 = 3
     · rw [if_pos h3] at h
       obtain ⟨s, h1, h⟩ := Option.bind_eq_some_iff.mp h
       by_cases hc : s.1 = 0
       · rw [if_pos hc] at h
         obtain ⟨u, h2, h⟩ := Option.bind_eq_some_iff.mp h
         obtain rfl := Option.some.inj h
         obtain ⟨a1, a2⟩ := hg _ _ _ _ _ h1
         obtain ⟨b1, b2⟩ := walkE_apart g hg es _ p d u hs' hn.2 h2
         refine key s.2.2 u.2.2 (fun x hx => ?_) a2 b1 b2
         obtain ⟨q, hq⟩ := a1 x hx
         refine ⟨47 :: q, ?_, .inr ⟨q, rfl⟩⟩
         rw [hq, app_list, app_list]
         simp
       · rw [if_neg hc] at h
         obtain rfl := Option.some.inj h
         exact ⟨fun x hx => (by cases hx), List.nodup_nil⟩
     · rw [if_neg h3] at h
       obtain ⟨u, h2, h⟩ := Option.bind_eq_some_iff.mp h
       obtain rfl := Option.some.inj h
       obtain ⟨b1, b2⟩ := walkE_apart g hg es n p d u hs' hn.2 h2
       refine key [(⟨p ++ e.f0, e.f1, e.f2⟩ : FileT)] u.2.2 (fun x hx => ?_) zq16 b1 b2
       obtain rfl := List.mem_singleton.1 hx
       exact ⟨[], by rw [List.append_nil]; exact app_list _ _, .inl rfl⟩
theorem walkV_apart {nd : ByteArray → Int × List EntT} (G : GoodN nd) : ∀ (k : Nat) (n : Int) (t p : ByteArray) (d : Int) (r : Int × Int × List FileT), walkV nd k n t p d = some r → (∀ x ∈ r.2.2, ∃ q, pthL x = p.data.toList ++ q) ∧ (r.2.2.map pthL).Nodup
 | 0, n, t, p, d, r, h => by cases h
 | k + 1, n, t, p, d, r, h => by
   unfold walkV at h
   by_cases h2 : n = 200
   · rw [if_pos h2] at h
     obtain rfl := Option.some.inj h
     exact ⟨fun x hx => (by cases hx), List.nodup_nil⟩
   · rw [if_neg h2] at h
     by_cases hc : (nd t).1 = 0
     · rw [if_pos hc] at h
       obtain ⟨a1, a2⟩ := walkE_apart (walkV nd k) (fun n t p d r h => walkV_apart G k n t p d r h) _ _ _ _ _ (G.sep t) (G.nd t) h
       refine ⟨fun x hx => ?_, a2⟩
       obtain ⟨e, _, q, hq, _⟩ := a1 x hx
       exact ⟨_, hq⟩
     · rw [if_neg hc] at h
       obtain rfl := Option.some.inj h
       exact ⟨fun x hx => (by cases hx), List.nodup_nil⟩
def ndG (gt : ByteArray → ByteArray × Bool) (de : ByteArray → List EntT × Bool) (t : ByteArray) : Int × List EntT := if (gt t).2 = true then (if (de (gt t).1).2 = true then (0, (de (gt t).1).1) else (5, [])) else (4, [])
end Go.Proofs.YtkjgnnhpjcofiaaGreatDoor.PX.X

namespace Go.Proofs.YtkjgnnhpjcofiaaGreatDoor.PX.X
open Go Go.RowKit Go.Lib Go.Proofs.YtkjgnnhpjcofiaaGreatDoorW.PrintWords Go.Proofs.YtkjgnnhpjcofiaaGreatDoor.PX
def endV (r : Int × Int × List FileT) : Int × List FileT := if r.1 = 0 then (if r.2.2.length > 60 then (2, []) else (0, sortF r.2.2)) else (r.1, [])
end Go.Proofs.YtkjgnnhpjcofiaaGreatDoor.PX.X

namespace Go.Proofs.YtkjgnnhpjcofiaaGreatDoor.PX.X
open Go Go.RowKit Go.Lib Go.Proofs.YtkjgnnhpjcofiaaGreatDoorW.PrintWords Go.Proofs.YtkjgnnhpjcofiaaGreatDoor.PX
set_option linter.unusedVariables false
theorem entAt (l : List EntT) (i : Nat) : rd_T118 l (i : Int) = l.getD i z118 := by
 show l.getD ((i : Int)).toNat _ = _
 rw [Int.toNat_natCast]
theorem drop_ent (l : List EntT) (i : Nat) (h : i < l.length) : l.drop i = l.getD i z118 :: l.drop (i + 1) := by
 rw [List.getD_eq_getElem?_getD, List.getElem?_eq_getElem h, Option.getD_some]
 exact List.drop_eq_getElem_cons h
theorem ent_mem (l : List EntT) (i : Nat) (h : i < l.length) : l.getD i z118 ∈ l := by
 rw [List.getD_eq_getElem?_getD, List.getElem?_eq_getElem h, Option.getD_some]
 exact List.getElem_mem h
theorem kcW {a : Addr} {v : Value} {V V' : World} (h : V.cell? a = some v) (hb : Below V.heap.size V V') : V'.cell? a = some v := (hb.cell (World.block_lt_of_cell? V _ h)).trans h
theorem keepR {a0 a1 a2 : Addr} {v0 v1 v2 : Value} {V V' : World} (h : V.cell? a0 = some v0 ∧ V.cell? a1 = some v1 ∧ V.cell? a2 = some v2) (hb : Below V.heap.size V V') : V'.cell? a0 = some v0 ∧ V'.cell? a1 = some v1 ∧ V'.cell? a2 = some v2 := ⟨(hb.cell (World.block_lt_of_cell? V _ h.1)).trans h.1, (hb.cell (World.block_lt_of_cell? V _ h.2.1)).trans h.2.1, (hb.cell (World.block_lt_of_cell? V _ h.2.2)).trans h.2.2⟩
theorem R_blk {α : Type} {d : Kd α} {e tb base b : Nat} {w : World} {v : Value} {xs : List α} {cb : Array Value} (h : d.R e w base (fun _ => True) v xs) (hb : w.heap[b]? = some (.cells cb tb (0, 0))) (h1 : ∀ q, q ∈ e :: d.E → q ≠ tb) (j : Nat) (u : Value) : d.R e (w.setCell ⟨b, j, none⟩ u) base (fun _ => True) v xs :=
 Kd.R_mono (Kd.R_far (p := ⟨b, j, none⟩) (Kd.R_mono (ok' := fun k => k ≠ b) (Kd.R_bound h) (fun k hk e_ => by
  obtain ⟨_, _, _, q, hq, cells, hc⟩ := hk
  subst e_
  rw [hb] at hc
  exact h1 q hq (Obj.cells.inj (Option.some.inj hc)).2.1.symm)) (fun k hk => hk) u) (fun _ _ => trivial)
theorem gr_tr {a w w' : World} {row : Option Nat} (h : a.grownBy w row) (k : w.grownBy w' row) : a.grownBy w' row :=
 ⟨k.os.trans h.os, k.tape.trans h.tape, k.output.trans h.output, Nat.le_trans h.size k.size, fun i hi hr => (k.block i (Nat.lt_of_lt_of_le hi h.size) hr).trans (h.block i hi hr)⟩
theorem gr_of {w w' : World} (h : Below w.heap.size w w') (row : Option Nat) : w.grownBy w' row := ⟨h.os, h.tape, h.output, h.size, fun i hi _ => h.block i hi⟩
theorem R_grT {α : Type} {d : Kd α} {e tb base b : Nat} {w w1 : World} {v : Value} {xs : List α} {cb : Array Value} (h : d.R e w base (fun _ => True) v xs) (hg : w.grownBy w1 (some b)) (hb : w.heap[b]? = some (.cells cb tb (0, 0))) (h1 : ∀ q, q ∈ e :: d.E → q ≠ tb) : d.R e w1 base (fun _ => True) v xs :=
 Kd.R_mono (Kd.R_grown (Kd.R_mono (ok' := fun k => k ≠ b) (Kd.R_bound h) (fun k hk e_ => by
  obtain ⟨_, _, _, q, hq, cells, hc⟩ := hk
  subst e_
  rw [hb] at hc
  exact h1 q hq (Obj.cells.inj (Option.some.inj hc)).2.1.symm)) hg (fun k hk e_ => hk (Option.some.inj e_))) (fun _ _ => trivial)
theorem R_over2 {α : Type} {d : Kd α} {e e' base : Nat} {w w1 : World} {u v : Value} {xs : List α} (h : d.R e w base (fun _ => True) u xs) (hg : w.grownBy w1 v.ownBlock) (hty : ∀ k, v.ownBlock = some k → ∃ cells, w.heap[k]? = some (.cells cells e' (0, 0))) (ht : ∀ q, q ∈ e :: d.E → q ≠ e') : d.R e w1 base (fun _ => True) u xs :=
 Kd.R_mono (Kd.R_grown (Kd.R_bound h) hg (fun k hk e_ => by
  obtain ⟨_, _, _, q, hq, cells, hc⟩ := hk
  obtain ⟨c2, hc2⟩ := hty k e_.symm
  rw [hc2] at hc
  exact ht q hq (Obj.cells.inj (Option.some.inj hc)).2.1.symm)) (fun _ _ => trivial)
theorem gr_row {w w1 w2 : World} {row row1 : Option Nat} (h : w.grownBy w1 row) (g : w1.grownBy w2 row1) (hr : ∀ k, row1 = some k → w.heap.size ≤ k) : w.grownBy w2 row :=
 ⟨g.os.trans h.os, g.tape.trans h.tape, g.output.trans h.output, Nat.le_trans h.size g.size, fun i hi hne => (g.block i (Nat.lt_of_lt_of_le hi h.size) (fun e => by have := hr i e.symm; omega)).trans (h.block i hi hne)⟩
theorem grown_set (w : World) (b j : Nat) (v : Value) : w.grownBy (w.setCell ⟨b, j, none⟩ v) (some b) := ⟨rfl, rfl, rfl, by simp [World.setCell], fun k hk hr => Below.heap_setCell w ⟨b, j, none⟩ v k (fun e => hr (congrArg some e))⟩
end Go.Proofs.YtkjgnnhpjcofiaaGreatDoor.PX.X

namespace Go.Proofs.YtkjgnnhpjcofiaaGreatDoorX
open Go Go.RowKit Go.Proofs.YtkjgnnhpjcofiaaGreatDoorW.PrintWords Go.Proofs.YtkjgnnhpjcofiaaGreatDoor.PX
open Go.Proofs.YtkjgnnhpjcofiaaGreatDoor.PX.X (lessB lessB_eq dataL backL back_data placeF insF sortF dataL_inj)
set_option linter.unusedVariables false
abbrev leP (x y : S75) : Prop := dataL x.f0 ≤ dataL y.f0
theorem less_le {a b : ByteArray} (h : lessB a b = true) : dataL a ≤ dataL b := by
 rw [lessB_eq, decide_eq_true_eq] at h
 exact List.le_of_lt h
theorem nless_le {a b : ByteArray} (h : ¬ lessB a b = true) : dataL b ≤ dataL a := by
 rw [lessB_eq, decide_eq_true_eq] at h
 exact List.not_lt.1 h
theorem place_le (l : List S75) (s : ByteArray) : ∀ n, placeF l s n ≤ n
 | 0 => Nat.le_refl _
 | n + 1 => by
   unfold placeF
   split
   · have := place_le l s n; omega
   · exact Nat.le_refl _
theorem place_after (l : List S75) (s : ByteArray) : ∀ n i, placeF l s n ≤ i → i < n → lessB s (l.getD i z75).f0 = true
 | 0, i, _, h => absurd h zq7
 | n + 1, i, h1, h2 => by
   unfold placeF at h1
   split at h1
   · rename_i h
     by_cases e : i = n
     · rw [e]; exact h
     · exact place_after l s n i h1 zq7
   · exact absurd h1 zq7
theorem place_ahead (l : List S75) (s : ByteArray) : ∀ n, 0 < placeF l s n → ¬ lessB s (l.getD (placeF l s n - 1) z75).f0 = true
 | 0, h => absurd h (Nat.lt_irrefl 0)
 | n + 1, h => by
   unfold placeF at h ⊢
   split
   · rename_i hc
     rw [if_pos hc] at h
     exact place_ahead l s n h
   · rename_i hc
     exact hc
theorem getD_in {l : List S75} {i : Nat} (h : i < l.length) : l.getD i z75 = l[i] := by
 rw [List.getD_eq_getElem?_getD, List.getElem?_eq_getElem h, Option.getD_some]
theorem ins_perm (l : List S75) (x : S75) : (insF l x).Perm (x :: l) := by
 unfold insF
 rw [List.append_assoc, List.singleton_append]
 refine List.perm_middle.trans ?_
 rw [List.take_append_drop]
theorem ins_rising (l : List S75) (x : S75) (h : l.Pairwise leP) : (insF l x).Pairwise leP := by
 have hp := place_le l x.f0 l.length
 have h2 := place_after l x.f0 l.length
 have h3 := place_ahead l x.f0 l.length
 unfold insF
 generalize placeF l x.f0 l.length = p at hp h2 h3 ⊢
 have hh := h
 rw [List.pairwise_iff_getElem] at hh
 have htd : (l.take p ++ l.drop p).Pairwise leP := by rw [List.take_append_drop]; exact h
 obtain ⟨ht, hd, hc⟩ := List.pairwise_append.1 htd
 rw [List.append_assoc, List.singleton_append]
 refine List.pairwise_append.2 ⟨ht, List.pairwise_cons.2 ⟨?_, hd⟩, ?_⟩
 · intro y hy
   obtain ⟨j, hj, rfl⟩ := List.getElem_of_mem hy
   rw [List.length_drop] at hj
   rw [List.getElem_drop]
   have := h2 (p + j) zq7 zq7
   rw [getD_in zq7] at this
   exact less_le this
 · intro y hy z hz
   rcases List.mem_cons.1 hz with rfl | hz
   · obtain ⟨j, hj, rfl⟩ := List.getElem_of_mem hy
     rw [List.length_take] at hj
     rw [List.getElem_take]
     have h4 := h3 zq7
     rw [getD_in zq7] at h4
     have h5 := nless_le h4
     by_cases e : j = p - 1
     · subst e; exact h5
     · exact List.le_trans (hh j (p - 1) zq7 zq7 zq7) h5
   · exact hc y hy z hz
theorem fold_perm : ∀ (l acc : List S75), (l.foldl insF acc).Perm (l ++ acc)
 | [], acc => List.Perm.refl _
 | x :: l, acc => by
   rw [List.foldl_cons]
   refine (fold_perm l _).trans ?_
   refine (List.Perm.append_left l (ins_perm acc x)).trans ?_
   exact List.perm_middle
theorem fold_rising : ∀ (l acc : List S75), acc.Pairwise leP → (l.foldl insF acc).Pairwise leP
 | [], acc, h => h
 | x :: l, acc, h => by
   rw [List.foldl_cons]
   exact fold_rising l _ (ins_rising acc x h)
theorem pair_one {l m : List S75} (hp : l.Perm m) (hl : l.Pairwise leP) (hm : m.Pairwise leP) (hn : (m.map fun x => x.f0.data.toList).Nodup) : l = m := by
 refine List.Perm.eq_of_pairwise (le := leP) (fun a b ha hb h1 h2 => ?_) hl hm hp
 have e : dataL a.f0 = dataL b.f0 := List.le_antisymm h1 h2
 have e2 : a.f0 = b.f0 := dataL_inj e
 have ha' : a ∈ m := hp.mem_iff.1 ha
 obtain ⟨i, hi, rfl⟩ := List.getElem_of_mem ha'
 obtain ⟨j, hj, rfl⟩ := List.getElem_of_mem hb
 have hp2 := List.pairwise_iff_getElem.1 hn
 rcases Nat.lt_trichotomy i j with h | h | h
 · exact absurd (by rw [List.getElem_map, List.getElem_map, e2]) (hp2 i j (by rw [List.length_map]; exact hi) (by rw [List.length_map]; exact hj) h)
 · subst h; rfl
 · exact absurd (by rw [List.getElem_map, List.getElem_map, e2]) (hp2 j i (by rw [List.length_map]; exact hj) (by rw [List.length_map]; exact hi) h)
theorem sortF_one {l m : List S75} (hp : l.Perm m) (hl : l.Pairwise leP) (hn : (m.map fun x => x.f0.data.toList).Nodup) : l = sortF m := by
 have h1 : (sortF m).Perm m := by
  have := fold_perm m []
  rwa [List.append_nil] at this
 have h2 : (sortF m).Pairwise leP := fold_rising m [] List.Pairwise.nil
 exact pair_one (hp.trans h1.symm) hl h2 ((h1.map _).nodup_iff.2 hn)
end Go.Proofs.YtkjgnnhpjcofiaaGreatDoorX
