/- Texts of this claim set one behind another by wip/bundle.py: XRes, PXf93. -/
import Derived.Test.YtjibadlbiapcmaaDoorBRP16
import Derived.Test.YtjibadlbiapcmaaDoorBRP23
import Derived.Test.YtjibadlbiapcmaaDoorBRP18
import Derived.Test.YtjibadlbiapcmaaDoorBRP19
import Derived.Test.YtjibadlbiapcmaaDoorBRP7
import Derived.Test.YtjibadlbiapcmaaDoorBRP12
namespace Go.Proofs.YtjibadlbiapcmaaDoor.PX.X
open Go Go.RowKit Go.Lib Go.Proofs.YtjibadlbiapcmaaDoorW.PrintWords Go.Proofs.YtjibadlbiapcmaaDoor.PX
set_option linter.unusedVariables false
set_option linter.unusedSimpArgs false
theorem litRes (o : EntT) (s : ByteArray) (gb : Nat) (W : World) (hg : gb < W.heap.size) (hc : W.cell? ⟨gb, 0, none⟩ = some (.string s)) :
    Calls Tryd.prog 142 (#[.agg #[.string o.f0, .int .i64 o.f1, .int .i64 o.f2, .string o.f3]] ++ #[.pointer (some ⟨gb, 0, none⟩)]) W fun e w' => e = .returned (.bool (decide (o.f0 = s))) ∧ Below W.heap.size W w' := by
  have hne : gb ≠ W.heap.size := by omega
  have hb : (o.f0.toList == s.toList) = decide (o.f0 = s) := by
    by_cases h : o.f0 = s
    · rw [decide_eq_true h, h]
      exact beq_self_eq_true _
    · rw [decide_eq_false h]
      exact beq_eq_false_iff_ne.mpr (fun z => h (YtjibadlbiapcmaaDoorX.toList_inj z))
  generalize decide (o.f0 = s) = b at hb ⊢
  show Calls Tryd.prog 142 #[.agg #[.string o.f0, .int .i64 o.f1, .int .i64 o.f2, .string o.f3], .pointer (some ⟨gb, 0, none⟩)] W _
  go_enter Tryd.func142, Tryd.ntmps142
  go_wp2
  go_ret
  exact ⟨rfl, (Below.refl _ W).alloc (Nat.le_refl _) _⟩
theorem res_eg (args : Array Value) (w : World) : (callFunc 142 args).run Tryd.prog w = .ok (.enter 142 args) w := enters_of Tryd.func142 (by kernel_rfl) rfl args w
/-- What is left of an index without a path. -/
def offE (l : List EntT) (s : ByteArray) : List EntT := l.filter fun x => !decide (x.f0 = s)
/-- What resolve tells. -/
def resE (l : List EntT) (path : ByteArray) (mode : Int) (id : ByteArray) : List EntT :=
  if mode = 0 then offE l path else (offE l path).take (bsAt (cmpE ⟨path, 0, mode, id⟩) (offE l path)) ++ [⟨path, 0, mode, id⟩] ++ (offE l path).drop (bsAt (cmpE ⟨path, 0, mode, id⟩) (offE l path))
theorem ownsRow_slice {w : World} {base e k n g c : Nat} {cur : Array Value} {cs : List Value} : True := trivial
set_option maxHeartbeats 2000000 in
set_option maxRecDepth 8000 in
theorem resolve_calls (A0 : Option Addr) (c0 : Nat) (l0 : List EntT) (path : ByteArray) (mode : Int) (id : ByteArray) (w : World) (hr0 : Kd.C k80 w A0 l0.length l0) (hbig : l0.length ≤ 1048576) (hpos : 0 < l0.length) :
    Calls Tryd.prog 93 #[.slice A0 l0.length c0, .string path, .int .i64 mode, .string id] w fun e w' => ∃ v, e = .returned v ∧ Kd.R k80 80 w' w.heap.size (fun _ => True) v (resE l0 path mode id) ∧ Below w.heap.size w w' := by
  have HR := Lib.hid hr0
  clear hr0
  have hol : (offE l0 path).length ≤ l0.length := List.length_filter_le _ _
  have HDEL : ∀ (gb : Nat) (W2 W : World) (v : Value), gb < W2.heap.size → W.cell? ⟨gb, 0, none⟩ = some (.string path) → Kd.R k80 80 W W2.heap.size (fun _ => True) v l0 → Calls Tryd.prog 140 #[v, .func (.func 142) #[] #[.pointer (some ⟨gb, 0, none⟩)]] W fun e w' => ∃ v', e = .returned v' ∧ Kd.R k80 80 w' W2.heap.size (fun _ => True) v' (offE l0 path) ∧ ∀ w0, Below W2.heap.size w0 W → Below W2.heap.size w0 w' := by
    intro gb W2 W v hgb hc hv
    have hgw : gb < W.heap.size := World.block_lt_of_cell? W ⟨gb, 0, none⟩ hc
    obtain ⟨_, ho⟩ := R_flat flatE hv
    rcases ho with ⟨_, h0⟩ | ⟨g, cap, cur, rfl, hb, hg, hlc, hcm, hcs, ht⟩
    · omega
    · refine deleteE (fun y => decide (y.f0 = path)) 142 _ res_eg W W2.heap.size g cap l0 cur (fun W3 x hx hk => ?_) hg hb hlc hcm hcs ht
      refine litRes x path gb W3 (Nat.lt_of_lt_of_le hgw hk.1) ?_
      have hne : gb ≠ g := by omega
      exact (cell_same (hk.2 gb hgw hne (by simp)) 0).trans hc
  have HD := Lib.hid HDEL
  clear HDEL
  have HOFF : ∃ OF, OF = offE l0 path := ⟨_, rfl⟩
  obtain ⟨OF, hOF⟩ := HOFF
  have HRES : Hid (resE l0 path mode id = if mode = 0 then OF else OF.take (bsAt (cmpE ⟨path, 0, mode, id⟩) OF) ++ [⟨path, 0, mode, id⟩] ++ OF.drop (bsAt (cmpE ⟨path, 0, mode, id⟩) OF)) := Lib.hid (by rw [hOF]; rfl)
  rw [← hOF] at hol HD
  clear hOF
  obtain ⟨RS, hRS⟩ : ∃ RS, RS = resE l0 path mode id := ⟨_, rfl⟩
  have HS := Lib.hid (hRS.trans HRES.out)
  rw [← hRS]
  clear hRS HRES
  by_cases hm : mode = 0
  · subst hm
    have hd := HS.out
    rw [if_pos rfl] at hd
    subst hd
    clear HS
    go_enter Tryd.func93, Tryd.ntmps93
    go_wp2_with (first | ((with_reducible refine gate_dst (N := 5) rfl ?_); refine box_event ?hg (N := 5) ?hd (cs := #[.string path]) (t := 9) ?hr ?_; (case hd => rfl); (case hg => rfl); (case hr => first | (go_simp; done) | (go_simp; rfl)); intro gs hgs w1 hbox1 hb1; have X1 := Lib.hid hbox1; have HB1 := Lib.hid hb1; have HGS := Lib.hid hgs; clear hbox1 hb1 hgs) | (go_at_call 141; (with_reducible refine (cloneE A0 c0 l0 _ (Kd.C_below HR.out HB1.out) (by omega)).mono ?_); rintro e W2 ⟨v2, rfl, ho2, hb2⟩; have O2 := Lib.hid ho2; have B2 := Lib.hid hb2; clear ho2 hb2) | (go_at_call 140; (with_reducible refine (HD.out gs w1 _ v2 ((Array.getElem?_eq_some_iff.1 X1.out).1) ((blk_cell (blk_below X1.out B2.out) 0).trans rfl) O2.out).mono ?_); rintro e W3 ⟨v3, rfl, ho3, hb3⟩; have O3 := Lib.hid ho3; have B3 := Lib.hid (hb3 w1 B2.out); clear ho3 hb3))
    go_ret
    exact ⟨_, rfl, Kd.R_lower O3.out HB1.out.size, HB1.out.trans (B3.out.mono HB1.out.size)⟩
  · have hmz : (mode == 0) = false := beq_eq_false_iff_ne.2 hm
    have hd := HS.out
    rw [if_neg hm] at hd
    have HRS := Lib.hid hd
    clear HS hd
    obtain ⟨at_, hat⟩ : ∃ q, q = bsAt (cmpE ⟨path, 0, mode, id⟩) OF := ⟨_, rfl⟩
    have hale : at_ ≤ OF.length := by rw [hat]; exact bsAt_le _ _
    have HAT := Lib.hid hat
    obtain ⟨hit, hhit⟩ : ∃ q, q = bsHit (cmpE ⟨path, 0, mode, id⟩) OF := ⟨_, rfl⟩
    have HBS : Hid (∀ (A : Option Addr) (c : Nat) (W : World), Kd.C k80 W A OF.length OF → Calls Tryd.prog 143 #[.slice A OF.length c, .agg #[.string path, .int .i64 0, .int .i64 mode, .string id], .func (.func 106) #[] #[]] W fun e w' => e = .returned (.tuple #[.int .i64 (at_ : Nat), .bool hit]) ∧ Below W.heap.size W w') := Lib.hid (fun A c W hC => by
      rw [hat, hhit]
      exact bsrE (cmpE ⟨path, 0, mode, id⟩) ⟨path, 0, mode, id⟩ 106 cmpE_eg OF A c W (fun W x _ _ => cmpE_calls ⟨path, 0, mode, id⟩ x W) hC (by omega))
    clear hat hhit
    go_enter Tryd.func93, Tryd.ntmps93
    go_wp2_with (first | ((with_reducible refine gate_dst (N := 5) rfl ?_); refine box_event ?hg (N := 5) ?hd (cs := #[.string path]) (t := 9) ?hr ?_; (case hd => rfl); (case hg => rfl); (case hr => first | (go_simp; done) | (go_simp; rfl)); intro gs hgs w1 hbox1 hb1; have X1 := Lib.hid hbox1; have HB1 := Lib.hid hb1; have HGS := Lib.hid hgs; clear hbox1 hb1 hgs) | (go_at_call 141; (with_reducible refine (cloneE A0 c0 l0 _ (Kd.C_below HR.out HB1.out) (by omega)).mono ?_); rintro e W2 ⟨v2, rfl, ho2, hb2⟩; have O2 := Lib.hid ho2; have B2 := Lib.hid hb2; clear ho2 hb2) | (go_at_call 140; (with_reducible refine (HD.out gs w1 _ v2 ((Array.getElem?_eq_some_iff.1 X1.out).1) ((blk_cell (blk_below X1.out B2.out) 0).trans rfl) O2.out).mono ?_); rintro e W3 ⟨v3, rfl, ho3, hb3⟩; obtain ⟨A3, c3, rfl⟩ := Kd.R_slice ho3; have hb3' := hb3 w1 B2.out; have hc3 : W3.cell? ⟨gs, 0, none⟩ = some (.string path) := (blk_cell (blk_below X1.out hb3') 0).trans rfl; have O3 := Lib.hid ho3; have B3 := Lib.hid hb3'; clear ho3 hb3 hb3') | (go_at_call 143; (with_reducible refine (HBS.out A3 c3 _ ((Kd.R_reads' (Kd.R_alloc O3.out _)).2.2)).mono ?_); rintro e W4 ⟨rfl, hb4⟩; have hxr : W4.heap[W3.heap.size]? = some (.cells #[.string path, .int .i64 0, .int .i64 mode, .string id] 80 (0, 0)) := (hb4.block _ (by simp)).trans (blk_new W3 _); have z0 : W4.cell? ⟨W3.heap.size, 0, none⟩ = some (.string path) := (blk_cell hxr 0).trans rfl; have z1 : W4.cell? ⟨W3.heap.size, 1, none⟩ = some (.int .i64 0) := (blk_cell hxr 1).trans rfl; have z2 : W4.cell? ⟨W3.heap.size, 2, none⟩ = some (.int .i64 mode) := (blk_cell hxr 2).trans rfl; have z3 : W4.cell? ⟨W3.heap.size, 3, none⟩ = some (.string id) := (blk_cell hxr 3).trans rfl; have hb14 : Below w1.heap.size w1 W4 := (B3.out.alloc B3.out.size _).trans (hb4.mono (by have := B3.out.size; simp; omega)); have O4 := Lib.hid (Kd.R_below (Kd.R_alloc O3.out _) hb4); have B4 := Lib.hid hb14; clear hb4 hb14 hxr) | (go_at_call 144; (with_reducible refine (insertE _ w1.heap.size (.slice A3 OF.length c3) OF ⟨path, 0, mode, id⟩ at_ W4.heap.size (Kd.R_alloc O4.out _) hale (blk_new W4 _) (fun z => absurd (own_lt (R_flat flatE O4.out) _ z) (Nat.lt_irrefl _)) (Nat.le_trans B4.out.size (by simp)) (by omega)).mono ?_); rintro e W5 ⟨v5, rfl, ho5, hb5⟩; rw [HAT.out, ← HRS.out] at ho5; have O5 := Lib.hid ho5; have B5 := Lib.hid (hb5 w1 (B4.out.alloc B4.out.size _)); clear ho5 hb5))
    go_ret
    exact ⟨_, rfl, Kd.R_lower O5.out HB1.out.size, HB1.out.trans (B5.out.mono HB1.out.size)⟩
end Go.Proofs.YtjibadlbiapcmaaDoor.PX.X

namespace Go.Proofs.YtjibadlbiapcmaaDoor.PX
open Go.RowKit Go.Proofs.YtjibadlbiapcmaaDoorW.PrintWords Go.Proofs.YtjibadlbiapcmaaDoorW.PrintLast Go.Proofs.YtjibadlbiapcmaaDoorW.PrintMore
attribute [local go_sem] max2_int min2_int max_two min_two max_three min_three max_four min_four   -- for this text's walks alone
set_option linter.unusedVariables false
set_option linter.unusedSimpArgs false

/-! ### impl_resolve: function 93 -/
def impl_resolve.f (l0 : List S80) (a1 : ByteArray) (a2 : Int) (a3 : ByteArray) : Option (List S80) := if 0 < l0.length then (if l0.length ≤ 1048576 then some (X.resE l0 a1 a2 a3) else none) else none
theorem impl_resolve.calls (A0 : Option Addr) (c0 : Nat) (l0 : List S80) (a1 : ByteArray) (a2 : Int) (a3 : ByteArray) (r : List S80) (w : World) (hr0 : Kd.C k80 w A0 l0.length l0) (hc0 : l0.length ≤ c0) (h : impl_resolve.f l0 a1 a2 a3 = some r) :
  Calls Tryd.prog 93 #[.slice A0 l0.length c0, .string a1, .int .i64 a2, .string a3] w fun e w' => ∃ v0_ : Value, e = .returned (v0_) ∧ Kd.R k80 80 w' w.heap.size (fun _ => True) v0_ r ∧ Below w.heap.size w w' := by
 unfold impl_resolve.f at h
 by_cases h1 : 0 < l0.length
 ·
  rw [if_pos h1] at h
  by_cases h2 : l0.length ≤ 1048576
  ·
   rw [if_pos h2] at h
   obtain rfl := Option.some.inj h
   exact X.resolve_calls A0 c0 l0 a1 a2 a3 w hr0 h2 h1
  ·
   rw [if_neg h2] at h
   cases h
 ·
  rw [if_neg h1] at h
  cases h

end Go.Proofs.YtjibadlbiapcmaaDoor.PX
