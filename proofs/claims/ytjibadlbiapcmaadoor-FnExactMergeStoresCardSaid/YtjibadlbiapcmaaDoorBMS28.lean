/- Texts of this claim set one behind another by wip/bundle.py: XPut, PXf72. -/
import Derived.Test.YtjibadlbiapcmaaDoorBMS19
import Derived.Test.YtjibadlbiapcmaaDoorBMS20
import Derived.Test.YtjibadlbiapcmaaDoorBMS26
import Derived.Test.YtjibadlbiapcmaaDoorBMS8
import Derived.Test.YtjibadlbiapcmaaDoorBMS22
import Derived.Test.YtjibadlbiapcmaaDoorBMS7
import Derived.Test.YtjibadlbiapcmaaDoorBMS13
namespace Go.Proofs.YtjibadlbiapcmaaDoor.PX.X
open Go Go.RowKit Go.Lib Go.Proofs.YtjibadlbiapcmaaDoorW.PrintWords Go.Proofs.YtjibadlbiapcmaaDoor.PX
set_option linter.unusedVariables false
set_option linter.unusedSimpArgs false
def cmpO (id : ByteArray) (x : ObjT) : Int := Lib.compareBytes x.f0.data.toList id.data.toList
theorem litFindO (o : ObjT) (s : ByteArray) (W : World) :
    Calls Tryd.prog 160 (#[.agg #[.string o.f0, .int .i64 o.f1, .string o.f2], .string s] ++ #[]) W fun e w' => e = .returned (.int .i64 (cmpO s o)) ∧ Below W.heap.size W w' := by
  have hcmp : ∀ W', Calls Tryd.prog 134 #[.string o.f0, .string s] W' fun e w' => e = .returned (.int .i64 (cmpO s o)) ∧ W' = w' := fun W' => (Any.strings_Compare Tryd.lays106 o.f0 s W').mono fun e w' ⟨he, hw⟩ => ⟨he, hw.symm⟩
  have HC := Lib.hid hcmp
  clear hcmp
  generalize cmpO s o = q at HC ⊢
  show Calls Tryd.prog 160 #[.agg #[.string o.f0, .int .i64 o.f1, .string o.f2], .string s] W _
  go_enter Tryd.func160, Tryd.ntmps160
  go_wp2_with (go_at_call 134; (with_reducible refine (HC.out _).mono ?_); rintro e w' ⟨rfl, rfl⟩)
  go_ret
  exact ⟨rfl, (Below.refl _ W).alloc (Nat.le_refl _) _⟩
theorem findO_eg (args : Array Value) (w : World) : (callFunc 160 args).run Tryd.prog w = .ok (.enter 160 args) w := enters_of Tryd.func160 (by kernel_rfl) rfl args w
theorem find_calls (A0 : Option Addr) (c0 : Nat) (l0 : List ObjT) (s : ByteArray) (w : World) (hr0 : Kd.C k96 w A0 l0.length l0) (hbig : l0.length ≤ 1048576) :
    Calls Tryd.prog 123 #[.slice A0 l0.length c0, .string s] w fun e w' => e = .returned (.tuple #[.int .i64 (bsAt (cmpO s) l0 : Nat), .bool (bsHit (cmpO s) l0)]) ∧ Below w.heap.size w w' := by
  have HB := Lib.hid (bsrO (cmpO s) (.string s) 160 findO_eg l0 A0 c0 w (fun W x _ _ => litFindO x s W) hr0 hbig)
  clear hr0
  generalize bsAt (cmpO s) l0 = at_ at HB ⊢
  generalize bsHit (cmpO s) l0 = hit at HB ⊢
  go_enter Tryd.func123, Tryd.ntmps123
  go_wp2_with (go_at_call 159; (with_reducible refine HB.out.mono ?_); rintro e w' ⟨rfl, hb⟩; have HBB := Lib.hid hb; clear hb)
  go_ret2
  exact ⟨rfl, HBB.out⟩
/-- What put tells. -/
def putO (l : List ObjT) (kind : Int) (data id : ByteArray) : Int × ByteArray × List ObjT :=
  if bsHit (cmpO id) l = true then (if (l.getD (bsAt (cmpO id) l) z96).f2 = data then (0, id, l) else (6, ⟨#[]⟩, []))
  else if l.length = 200 then (2, ⟨#[]⟩, []) else (0, id, l.take (bsAt (cmpO id) l) ++ [⟨id, kind, data⟩] ++ l.drop (bsAt (cmpO id) l))
theorem bsHit_lt {α : Type} (cf : α → Int) (l : List α) (h : bsHit cf l = true) : bsAt cf l < l.length := by
  rcases Nat.lt_or_ge (bsAt cf l) l.length with h1 | h1
  · exact h1
  · rw [bsHit_none cf l (List.getElem?_eq_none h1)] at h
    cases h
theorem R_away {α : Type} {d : Kd α} {e : Nat} {w : World} {base : Nat} {v : Value} {xs : List α} {g j : Nat} (h : d.R e w base (fun _ => True) v xs) (hg : g < base) (u : Value) : d.R e (w.setCell ⟨g, j, none⟩ u) base (fun _ => True) v xs :=
  Kd.R_mono (Kd.R_far (p := ⟨g, j, none⟩) (Kd.R_mono (ok' := fun k => base ≤ k) (Kd.R_bound h) (fun _ hk => hk.2.1)) (fun k hk => by show k ≠ g; omega) u) (fun _ _ => trivial)
set_option maxHeartbeats 2000000 in
set_option maxRecDepth 8000 in
theorem put_calls (k : Nat) (A0 : Option Addr) (c0 : Nat) (l0 : List ObjT) (kind : Int) (data id : ByteArray) (w : World) (hr0 : Kd.C k96 w A0 l0.length l0) (hbig : l0.length ≤ 1048576) (hid : impl_idOf.f k kind data = some id) (hG : Gt w) :
    Calls Tryd.prog 72 #[.slice A0 l0.length c0, .int .i64 kind, .string data] w fun e w' => ∃ v, e = .returned (.agg #[.int .i64 (putO l0 kind data id).1, .string (putO l0 kind data id).2.1, v]) ∧ Kd.R k96 96 w' w.heap.size (fun _ => True) v (putO l0 kind data id).2.2 ∧ Below w.heap.size w w' := by
  have HR := Lib.hid hr0
  have HG := Lib.hid hG
  have HI := Lib.hid hid
  have hle := bsAt_le (cmpO id) l0
  have HF := Lib.hid (fun W (h : Below w.heap.size w W) => find_calls A0 c0 l0 id W (Kd.C_below hr0 h) hbig)
  clear hr0 hG hid
  have HP : Hid (putO l0 kind data id = if bsHit (cmpO id) l0 = true then (if (l0.getD (bsAt (cmpO id) l0) z96).f2 = data then (0, id, l0) else (6, ⟨#[]⟩, []))
    else if l0.length = 200 then (2, ⟨#[]⟩, []) else (0, id, l0.take (bsAt (cmpO id) l0) ++ [⟨id, kind, data⟩] ++ l0.drop (bsAt (cmpO id) l0))) := Lib.hid rfl
  have hlt := bsHit_lt (cmpO id) l0
  generalize bsAt (cmpO id) l0 = at_ at HF HP hle hlt
  generalize bsHit (cmpO id) l0 = hit at HF HP hlt
  generalize putO l0 kind data id = out at HP ⊢
  cases hit with
  | true =>
    have hlt' := hlt rfl
    have hltz : (at_ : Int) < (l0.length : Int) := by omega
    have haz : (0 : Int) ≤ (at_ : Int) := by omega
    obtain ⟨ad, hA, q0, q1, q2⟩ := at_T96 HR.out (at_ : Int) haz hltz
    subst hA
    rw [Int.toNat_natCast] at q0 q1 q2
    have hx : rd_T96 l0 (at_ : Int) = l0.getD at_ z96 := by
      show l0.getD ((at_ : Int)).toNat _ = _
      rw [Int.toNat_natCast]
    rw [hx] at q2
    have Q2 := Lib.hid q2
    clear q0 q1 q2 hx hlt hlt' hle
    have hd := HP.out
    rw [if_pos rfl] at hd
    by_cases hs : (l0.getD at_ z96).f2 = data
    · rw [if_pos hs] at hd
      subst hd
      have hne : ((l0.getD at_ z96).f2.toList == data.toList) = true := by rw [hs]; exact beq_self_eq_true _
      generalize (l0.getD at_ z96).f2 = dd at Q2 hne
      clear hs HP
      go_enter Tryd.func72, Tryd.ntmps72
      go_wp2_with (first | ((with_reducible refine gate_dst (N := 6) rfl ?_); refine box_event ?hg (N := 6) ?hd (cs := #[.int .i64 0, .string (⟨#[]⟩ : ByteArray), .slice none 0 0]) (t := 43) ?hr ?_; (case hd => rfl); (case hg => rfl); (case hr => first | (go_simp; done) | (go_simp; rfl)); intro gr hgr w1 hbox hb1; have HRB := Lib.hid hbox; have HB1 := Lib.hid hb1; have HGR := Lib.hid hgr; clear hbox hb1 hgr) | (go_at_call 120; (with_reducible refine (impl_idOf.calls k kind data id _ (HG.out.below HB1.out) HI.out).mono ?_); rintro e W2 ⟨rfl, hb2⟩; have HB2 := Lib.hid hb2; clear hb2) | (go_at_call 123; (with_reducible refine (HF.out _ (HB1.out.trans (HB2.out.mono HB1.out.size))).mono ?_); rintro e W3 ⟨rfl, hb3⟩; have hrr : W3.heap[gr]? = some (.cells #[.int .i64 0, .string (⟨#[]⟩ : ByteArray), .slice none 0 0] 43 (0, 0)) := blk_below (blk_below HRB.out HB2.out) hb3; have hbq : Below w.heap.size w W3 := HB1.out.trans ((HB2.out.trans (hb3.mono HB2.out.size)).mono HB1.out.size); have q2 := (hbq.cell (World.block_lt_of_cell? w _ Q2.out)).trans Q2.out; have R3 := Lib.hid hrr; have B3 := Lib.hid hbq; clear hrr hb3 hbq) | (go_at_call 96; (with_reducible refine (cloneO (some ad) c0 l0 _ (Kd.C_below HR.out B3.out) (by omega)).mono ?_); rintro e W4 ⟨v4, rfl, ho4, hb4⟩; obtain ⟨A4, c4, rfl⟩ := Kd.R_slice ho4; have hrr : W4.heap[gr]? = some (.cells #[.int .i64 0, .string (⟨#[]⟩ : ByteArray), .slice none 0 0] 43 (0, 0)) := blk_below R3.out hb4; have hc0 : W4.cell? ⟨gr, 0, none⟩ = some (.int .i64 0) := (blk_cell hrr 0).trans rfl; have hc1 : W4.cell? ⟨gr, 1, none⟩ = some (.string (⟨#[]⟩ : ByteArray)) := (blk_cell hrr 1).trans rfl; have hc2 : W4.cell? ⟨gr, 2, none⟩ = some (.slice none 0 0) := (blk_cell hrr 2).trans rfl; have hf0 := blk_frozen hrr 0; have hf1 := blk_frozen hrr 1; have hf2 := blk_frozen hrr 2; have R4 := Lib.hid hrr; have O4 := Lib.hid ho4; have B4 := Lib.hid hb4; clear hrr ho4 hb4))
      have hgr : w.heap.size ≤ gr := Nat.le_of_eq HGR.out.symm
      have hlt3 : gr < W3.heap.size := (Array.getElem?_eq_some_iff.1 R3.out).1
      refine bodyPost_ret (results_cell_row rfl _ _ gr 43 #[.int .i64 0, .string id, .slice A4 l0.length c4] (0, 0) _ rfl (blk_set (blk_set (blk_set R4.out 0 (.int .i64 0)) 1 (.string id)) 2 (.slice A4 l0.length c4)) Tryd.underlying43 rfl (by kernel_rfl)) rfl ?_
      exact ⟨_, rfl, Kd.R_lower (R_away (R_away (R_away O4.out hlt3 _) hlt3 _) hlt3 _) B3.out.size, below_set (below_set (below_set (B3.out.trans (B4.out.mono B3.out.size)) hgr) hgr) hgr⟩
    · rw [if_neg hs] at hd
      subst hd
      have hne : ((l0.getD at_ z96).f2.toList == data.toList) = false := beq_eq_false_iff_ne.mpr (fun z => hs (YtjibadlbiapcmaaDoorX.toList_inj z))
      generalize (l0.getD at_ z96).f2 = dd at Q2 hne
      clear hs HP
      go_enter Tryd.func72, Tryd.ntmps72
      go_wp2_with (first | ((with_reducible refine gate_dst (N := 6) rfl ?_); refine box_event ?hg (N := 6) ?hd (cs := #[.int .i64 0, .string (⟨#[]⟩ : ByteArray), .slice none 0 0]) (t := 43) ?hr ?_; (case hd => rfl); (case hg => rfl); (case hr => first | (go_simp; done) | (go_simp; rfl)); intro gr hgr w1 hbox hb1; have HRB := Lib.hid hbox; have HB1 := Lib.hid hb1; have HGR := Lib.hid hgr; clear hbox hb1 hgr) | (go_at_call 120; (with_reducible refine (impl_idOf.calls k kind data id _ (HG.out.below HB1.out) HI.out).mono ?_); rintro e W2 ⟨rfl, hb2⟩; have HB2 := Lib.hid hb2; clear hb2) | (go_at_call 123; (with_reducible refine (HF.out _ (HB1.out.trans (HB2.out.mono HB1.out.size))).mono ?_); rintro e W3 ⟨rfl, hb3⟩; have hrr : W3.heap[gr]? = some (.cells #[.int .i64 0, .string (⟨#[]⟩ : ByteArray), .slice none 0 0] 43 (0, 0)) := blk_below (blk_below HRB.out HB2.out) hb3; have hc0 : W3.cell? ⟨gr, 0, none⟩ = some (.int .i64 0) := (blk_cell hrr 0).trans rfl; have hc1 : W3.cell? ⟨gr, 1, none⟩ = some (.string (⟨#[]⟩ : ByteArray)) := (blk_cell hrr 1).trans rfl; have hc2 : W3.cell? ⟨gr, 2, none⟩ = some (.slice none 0 0) := (blk_cell hrr 2).trans rfl; have hf0 := blk_frozen hrr 0; have hf1 := blk_frozen hrr 1; have hf2 := blk_frozen hrr 2; have hbq : Below w.heap.size w W3 := HB1.out.trans ((HB2.out.trans (hb3.mono HB2.out.size)).mono HB1.out.size); have q2 := (hbq.cell (World.block_lt_of_cell? w _ Q2.out)).trans Q2.out; have R3 := Lib.hid hrr; have B3 := Lib.hid hbq; clear hrr hb3 hbq))
      have hgr : w.heap.size ≤ gr := Nat.le_of_eq HGR.out.symm
      refine bodyPost_ret (results_cell_row rfl _ _ gr 43 #[.int .i64 6, .string (⟨#[]⟩ : ByteArray), .slice none 0 0] (0, 0) _ rfl (blk_set (blk_set (blk_set R3.out 0 (.int .i64 6)) 1 (.string (⟨#[]⟩ : ByteArray))) 2 (.slice none 0 0)) Tryd.underlying43 rfl (by kernel_rfl)) rfl ?_
      exact ⟨_, rfl, Kd.R_nil _ _ _ _ _, below_set (below_set (below_set B3.out hgr) hgr) hgr⟩
  | false =>
    have hd := HP.out
    rw [if_neg (by decide)] at hd
    clear hlt HP
    by_cases hn : l0.length = 200
    · rw [if_pos hn] at hd
      subst hd
      have hnz : ((l0.length : Int) == 200) = true := beq_iff_eq.mpr (by omega)
      clear hn
      go_enter Tryd.func72, Tryd.ntmps72
      go_wp2_with (first | ((with_reducible refine gate_dst (N := 6) rfl ?_); refine box_event ?hg (N := 6) ?hd (cs := #[.int .i64 0, .string (⟨#[]⟩ : ByteArray), .slice none 0 0]) (t := 43) ?hr ?_; (case hd => rfl); (case hg => rfl); (case hr => first | (go_simp; done) | (go_simp; rfl)); intro gr hgr w1 hbox hb1; have HRB := Lib.hid hbox; have HB1 := Lib.hid hb1; have HGR := Lib.hid hgr; clear hbox hb1 hgr) | (go_at_call 120; (with_reducible refine (impl_idOf.calls k kind data id _ (HG.out.below HB1.out) HI.out).mono ?_); rintro e W2 ⟨rfl, hb2⟩; have HB2 := Lib.hid hb2; clear hb2) | (go_at_call 123; (with_reducible refine (HF.out _ (HB1.out.trans (HB2.out.mono HB1.out.size))).mono ?_); rintro e W3 ⟨rfl, hb3⟩; have hrr : W3.heap[gr]? = some (.cells #[.int .i64 0, .string (⟨#[]⟩ : ByteArray), .slice none 0 0] 43 (0, 0)) := blk_below (blk_below HRB.out HB2.out) hb3; have hc0 : W3.cell? ⟨gr, 0, none⟩ = some (.int .i64 0) := (blk_cell hrr 0).trans rfl; have hc1 : W3.cell? ⟨gr, 1, none⟩ = some (.string (⟨#[]⟩ : ByteArray)) := (blk_cell hrr 1).trans rfl; have hc2 : W3.cell? ⟨gr, 2, none⟩ = some (.slice none 0 0) := (blk_cell hrr 2).trans rfl; have hf0 := blk_frozen hrr 0; have hf1 := blk_frozen hrr 1; have hf2 := blk_frozen hrr 2; have hbq : Below w.heap.size w W3 := HB1.out.trans ((HB2.out.trans (hb3.mono HB2.out.size)).mono HB1.out.size); have R3 := Lib.hid hrr; have B3 := Lib.hid hbq; clear hrr hb3 hbq))
      have hgr : w.heap.size ≤ gr := Nat.le_of_eq HGR.out.symm
      refine bodyPost_ret (results_cell_row rfl _ _ gr 43 #[.int .i64 2, .string (⟨#[]⟩ : ByteArray), .slice none 0 0] (0, 0) _ rfl (blk_set (blk_set (blk_set R3.out 0 (.int .i64 2)) 1 (.string (⟨#[]⟩ : ByteArray))) 2 (.slice none 0 0)) Tryd.underlying43 rfl (by kernel_rfl)) rfl ?_
      exact ⟨_, rfl, Kd.R_nil _ _ _ _ _, below_set (below_set (below_set B3.out hgr) hgr) hgr⟩
    · rw [if_neg hn] at hd
      subst hd
      have hnz : ((l0.length : Int) == 200) = false := beq_eq_false_iff_ne.mpr (by omega)
      obtain ⟨L, hL⟩ : ∃ L, L = l0.take at_ ++ [(⟨id, kind, data⟩ : ObjT)] ++ l0.drop at_ := ⟨_, rfl⟩
      show Calls Tryd.prog _ _ _ fun e w' => ∃ v, e = .returned (.agg #[.int .i64 0, .string id, v]) ∧ Kd.R k96 96 w' w.heap.size (fun _ => True) v (l0.take at_ ++ [(⟨id, kind, data⟩ : ObjT)] ++ l0.drop at_) ∧ Below w.heap.size w w'
      rw [← hL]
      have HLL := Lib.hid hL
      clear hn hL
      go_enter Tryd.func72, Tryd.ntmps72
      go_wp2_with (first | ((with_reducible refine gate_dst (N := 6) rfl ?_); refine box_event ?hg (N := 6) ?hd (cs := #[.int .i64 0, .string (⟨#[]⟩ : ByteArray), .slice none 0 0]) (t := 43) ?hr ?_; (case hd => rfl); (case hg => rfl); (case hr => first | (go_simp; done) | (go_simp; rfl)); intro gr hgr w1 hbox hb1; have HRB := Lib.hid hbox; have HB1 := Lib.hid hb1; have HGR := Lib.hid hgr; clear hbox hb1 hgr) | (go_at_call 120; (with_reducible refine (impl_idOf.calls k kind data id _ (HG.out.below HB1.out) HI.out).mono ?_); rintro e W2 ⟨rfl, hb2⟩; have HB2 := Lib.hid hb2; clear hb2) | (go_at_call 123; (with_reducible refine (HF.out _ (HB1.out.trans (HB2.out.mono HB1.out.size))).mono ?_); rintro e W3 ⟨rfl, hb3⟩; have hrr : W3.heap[gr]? = some (.cells #[.int .i64 0, .string (⟨#[]⟩ : ByteArray), .slice none 0 0] 43 (0, 0)) := blk_below (blk_below HRB.out HB2.out) hb3; have hbq : Below w.heap.size w W3 := HB1.out.trans ((HB2.out.trans (hb3.mono HB2.out.size)).mono HB1.out.size); have R3 := Lib.hid hrr; have B3 := Lib.hid hbq; clear hrr hb3 hbq) | (go_at_call 96; (with_reducible refine (cloneO A0 c0 l0 _ (Kd.C_below HR.out B3.out) (by omega)).mono ?_); rintro e W4 ⟨v4, rfl, ho4, hb4⟩; obtain ⟨A4, c4, rfl⟩ := Kd.R_slice ho4; have hrr : W4.heap[gr]? = some (.cells #[.int .i64 0, .string (⟨#[]⟩ : ByteArray), .slice none 0 0] 43 (0, 0)) := blk_below R3.out hb4; have R4 := Lib.hid hrr; have O4 := Lib.hid ho4; have B4 := Lib.hid hb4; clear hrr ho4 hb4) | (go_at_call 124; (with_reducible refine (insertO _ W3.heap.size (.slice A4 l0.length c4) l0 ⟨id, kind, data⟩ at_ W4.heap.size (Kd.R_alloc O4.out _) hle (blk_new W4 _) (fun z => absurd (own_lt (R_flat flatO O4.out) _ z) (Nat.lt_irrefl _)) (Nat.le_trans B4.out.size (by simp)) (by omega)).mono ?_); rintro e W5 ⟨v5, rfl, ho5, hb5⟩; rw [← HLL.out] at ho5; obtain ⟨A5, c5, rfl⟩ := Kd.R_slice ho5; have hb5' : Below W3.heap.size W3 W5 := hb5 W3 (B4.out.alloc B4.out.size _); have hrr : W5.heap[gr]? = some (.cells #[.int .i64 0, .string (⟨#[]⟩ : ByteArray), .slice none 0 0] 43 (0, 0)) := blk_below R3.out hb5'; have hc0 : W5.cell? ⟨gr, 0, none⟩ = some (.int .i64 0) := (blk_cell hrr 0).trans rfl; have hc1 : W5.cell? ⟨gr, 1, none⟩ = some (.string (⟨#[]⟩ : ByteArray)) := (blk_cell hrr 1).trans rfl; have hc2 : W5.cell? ⟨gr, 2, none⟩ = some (.slice none 0 0) := (blk_cell hrr 2).trans rfl; have hf0 := blk_frozen hrr 0; have hf1 := blk_frozen hrr 1; have hf2 := blk_frozen hrr 2; have R5 := Lib.hid hrr; have O5 := Lib.hid ho5; have B5 := Lib.hid hb5'; clear hrr ho5 hb5 hb5'))
      have hgr : w.heap.size ≤ gr := Nat.le_of_eq HGR.out.symm
      have hlt3 : gr < W3.heap.size := (Array.getElem?_eq_some_iff.1 R3.out).1
      refine bodyPost_ret (results_cell_row rfl _ _ gr 43 #[.int .i64 0, .string id, .slice A5 L.length c5] (0, 0) _ rfl (blk_set (blk_set (blk_set R5.out 0 (.int .i64 0)) 1 (.string id)) 2 (.slice A5 L.length c5)) Tryd.underlying43 rfl (by kernel_rfl)) rfl ?_
      exact ⟨_, rfl, Kd.R_lower (R_away (R_away (R_away O5.out hlt3 _) hlt3 _) hlt3 _) B3.out.size, below_set (below_set (below_set (B3.out.trans (B5.out.mono B3.out.size)) hgr) hgr) hgr⟩
end Go.Proofs.YtjibadlbiapcmaaDoor.PX.X

namespace Go.Proofs.YtjibadlbiapcmaaDoor.PX
open Go.RowKit Go.Proofs.YtjibadlbiapcmaaDoorW.PrintWords Go.Proofs.YtjibadlbiapcmaaDoorW.PrintLast Go.Proofs.YtjibadlbiapcmaaDoorW.PrintMore
attribute [local go_sem] max2_int min2_int max_two min_two max_three min_three max_four min_four   -- for this text's walks alone
set_option linter.unusedVariables false
set_option linter.unusedSimpArgs false

/-! ### impl_put: function 72 -/
def impl_put.f (k : Nat) (l0 : List X.ObjT) (a1 : Int) (a2 : ByteArray) : Option (Int × ByteArray × (List X.ObjT)) := (impl_idOf.f k a1 a2).bind fun id => if l0.length ≤ 1048576 then some (X.putO l0 a1 a2 id) else none
theorem impl_put.mono : ∀ l0 a1 a2 k, LeO (impl_put.f k l0 a1 a2) (impl_put.f (k + 1) l0 a1 a2) := by
 intro l0 a1 a2 k r h
 unfold impl_put.f at h ⊢
 cases hd : impl_idOf.f k a1 a2 with
 | none => rw [hd] at h; cases h
 | some d => rw [impl_idOf.mono a1 a2 k d hd]; rw [hd] at h; exact h
theorem impl_put.calls (k : Nat) (A0 : Option Addr) (c0 : Nat) (l0 : List X.ObjT) (a1 : Int) (a2 : ByteArray) (r1 : Int) (r2 : ByteArray) (r3 : List X.ObjT) (w : World) (hr0 : Kd.C k96 w A0 l0.length l0) (hc0 : l0.length ≤ c0) (hG : Gt w) (h : impl_put.f k l0 a1 a2 = some (r1, r2, r3)) :
  Calls Tryd.prog 72 #[.slice A0 l0.length c0, .int .i64 a1, .string a2] w fun e w' => ∃ v2_ : Value, e = .returned (.agg #[.int .i64 r1, .string r2, v2_]) ∧ Kd.R k96 96 w' w.heap.size (fun _ => True) v2_ r3 ∧ Below w.heap.size w w' := by
 unfold impl_put.f at h
 cases hd : impl_idOf.f k a1 a2 with
 | none => rw [hd] at h; cases h
 | some d =>
  rw [hd, Option.bind_some] at h
  by_cases h1 : l0.length ≤ 1048576
  ·
   rw [if_pos h1] at h
   have h2 := Option.some.inj h
   have e1 : r1 = (X.putO l0 a1 a2 d).1 := by rw [h2]
   have e2 : r2 = (X.putO l0 a1 a2 d).2.1 := by rw [h2]
   have e3 : r3 = (X.putO l0 a1 a2 d).2.2 := by rw [h2]
   subst e1 e2 e3
   exact X.put_calls k A0 c0 l0 a1 a2 d w hr0 h1 hd hG
  ·
   rw [if_neg h1] at h
   cases h

end Go.Proofs.YtjibadlbiapcmaaDoor.PX
