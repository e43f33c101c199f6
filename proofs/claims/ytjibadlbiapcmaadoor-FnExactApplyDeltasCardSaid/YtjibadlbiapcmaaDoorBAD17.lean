/- Texts of this claim set one behind another by wip/bundle.py: XClos, XFind, XInDirC, PXf125, PXf84. -/
import Derived.Test.YtjibadlbiapcmaaDoorBAD12
import Derived.Shelf.SlicesQ.Load
import Derived.Lib.SlBy
import Derived.Lib.Hide
import Derived.Test.YtjibadlbiapcmaaDoorBAD7
namespace Go.Proofs.YtjibadlbiapcmaaDoor.PX.X
open Go Go.RowKit Go.Lib Go.Proofs.YtjibadlbiapcmaaDoorW.PrintWords
set_option linter.unusedVariables false
abbrev FileT := S106
instance : Inhabited FileT := ⟨z106⟩
theorem getBang (l : List FileT) (i : Nat) : l[i]! = l.getD i z106 := by
  rw [List.getElem!_eq_getElem?_getD, List.getD_eq_getElem?_getD]
  rfl
set_option maxHeartbeats 4000000 in
theorem idxFile (p : FileT → Bool) (g : Nat) (lb : Array Value) (eg : ∀ args w, (callFunc g args).run Tryd.prog w = .ok (.enter g args) w) (zs : List FileT) (A0 : Option Addr) (c : Nat) (w : World)
    (hp : ∀ (W : World) (x : FileT), x ∈ zs → Below w.heap.size w W → Calls Tryd.prog g (#[.agg #[.string x.f0, .int .i64 x.f1, .string x.f2]] ++ lb) W fun e w' => e = .returned (.bool (p x)) ∧ Below w.heap.size w w')
    (hr : Kd.C k106 w A0 zs.length zs) (hbig : zs.length ≤ 9223372036854775807) :
    Calls Tryd.prog 128 #[.slice A0 zs.length c, .func (.func g) #[] lb] w fun e w' => e = .returned (.int .i64 (Lib.idxBy (fun _ y => p y) zs default)) ∧ Below w.heap.size w w' := by
  have hn : zs.take zs.length = zs := List.take_length
  generalize hnn : zs.length = n at hr hbig hn ⊢
  have HR := Lib.hid hr
  have HP := Lib.hid hp
  have HN := Lib.hid hnn
  clear hr hp hnn
  go_enter Tryd.func128, Tryd.ntmps128
  go_wp2
  go_loopg [5, 8] n (fun gg _ s8 wr => ∃ kk : Nat, kk ≤ n ∧ n - kk ≤ gg ∧ s8 = .int .i64 kk ∧ Aside (Below w.heap.size w wr) ∧ Aside (∀ j, j < kk → p zs[j]! = false))
  case atStart => exact ⟨0, Nat.zero_le _, by omega, rfl, Below.refl _ w, fun j hj => absurd hj (Nat.not_lt_zero _)⟩
  case round =>
    obtain ⟨kk, hkk, hg, rfl, BW, A⟩ := hrel
    by_cases hlt : kk < n
    · have hltz : (kk : Int) < (n : Int) := by omega
      have hkz : (0 : Int) ≤ (kk : Int) := by omega
      obtain ⟨ad, rfl, q0, q1, q2⟩ := at_T106 (Kd.C_below HR.out BW.out) (kk : Int) hkz hltz
      have hlz : kk < zs.length := by rw [HN.out]; exact hlt
      have ez : zs[kk]! = rd_T106 zs (kk : Int) := by
        rw [getBang]
        show _ = zs.getD ((kk : Int)).toNat _
        rw [Int.toNat_natCast]
      have hmem : zs[kk]! ∈ zs := by
        rw [getBang, List.getD_eq_getElem?_getD, List.getElem?_eq_getElem hlz, Option.getD_some]
        exact List.getElem_mem hlz
      rw [← ez] at q0 q1 q2
      rw [Int.toNat_natCast] at q0 q1 q2
      have hcall := HP.out wr zs[kk]! hmem BW.out
      have HZ := Lib.hid hlz
      clear hlz ez hmem
      generalize hy : zs[kk]! = y at q0 q1 q2 hcall
      have B : Aside (zs[kk]! = y) := hy
      clear hy
      have l2 : Sem.run Tryd.prog (loadCellsFrom (ad.add (kk * 3)) 0 3 #[]) wr = .ok #[.string y.f0, .int .i64 y.f1, .string y.f2] wr :=
        run_loadCellsFrom_list _ _ (ad.add (kk * 3)) [.string y.f0, .int .i64 y.f1, .string y.f2] 3 rfl (fun j v hj => by
          match j, hj with
          | 0, hj => rw [← Option.some.inj hj]; exact q0
          | 1, hj => rw [← Option.some.inj hj]; exact q1
          | 2, hj => rw [← Option.some.inj hj]; exact q2
          | j + 3, hj => simp at hj)
      cases hq : p y with
      | true =>
        rw [hq] at hcall
        go_wp2_with (go_at_fn g; refine hcall.mono ?_; rintro e w' ⟨rfl, hb'⟩)
        go_ret
        refine ⟨?_, hb'⟩
        have hz := HZ.out
        rw [← hn, Lib.idxBy_hit (fun _ y => p y) zs n kk default hlt (by have := HN.out; omega) (by show p zs[kk]! = true; rw [B.out]; exact hq) A.out]
        rfl
      | false =>
        rw [hq] at hcall
        go_wp2_with (go_at_fn g; refine hcall.mono ?_; rintro e w' ⟨rfl, hb'⟩)
        go_roundg (n - (kk + 1))
        case measure => omega
        case rel =>
          refine ⟨kk + 1, by omega, by omega, by go_num, hb', (show Aside _ from fun j hj => ?_)⟩
          by_cases e : j = kk
          · subst e
            rw [B.out]; exact hq
          · exact A.out j (by omega)
    · have hltz : ¬ (kk : Int) < (n : Int) := by omega
      have : kk = n := by omega
      subst this
      go_wp2
      go_ret
      refine ⟨?_, BW.out⟩
      rw [← hn, Lib.idxBy_miss (fun _ y => p y) zs kk default A.out]
      rfl
set_option maxHeartbeats 4000000 in
theorem conFile (p : FileT → Bool) (g : Nat) (lb : Array Value) (eg : ∀ args w, (callFunc g args).run Tryd.prog w = .ok (.enter g args) w) (zs : List FileT) (A0 : Option Addr) (c : Nat) (w : World)
    (hp : ∀ (W : World) (x : FileT), x ∈ zs → Below w.heap.size w W → Calls Tryd.prog g (#[.agg #[.string x.f0, .int .i64 x.f1, .string x.f2]] ++ lb) W fun e w' => e = .returned (.bool (p x)) ∧ Below w.heap.size w w')
    (hr : Kd.C k106 w A0 zs.length zs) (hbig : zs.length ≤ 9223372036854775807) :
    Calls Tryd.prog 125 #[.slice A0 zs.length c, .func (.func g) #[] lb] w fun e w' => e = .returned (.bool (zs.any p)) ∧ Below w.heap.size w w' := by
  rw [show zs.any p = decide (0 ≤ Lib.idxBy (fun _ y => p y) zs default) from (Lib.idxBy_nonneg_iff (fun _ y => p y) zs default).symm]
  have HI := Lib.hid (idxFile p g lb eg zs A0 c w hp hr hbig)
  clear hp hr
  generalize Lib.idxBy (fun _ y => p y) zs default = r at HI ⊢
  go_enter Tryd.func125, Tryd.ntmps125
  go_wp2_with (go_at_call 128; refine HI.out.mono ?_; rintro e w' ⟨rfl, hb'⟩)
  go_ret
  exact ⟨rfl, hb'⟩
end Go.Proofs.YtjibadlbiapcmaaDoor.PX.X

namespace Go.Proofs.YtjibadlbiapcmaaDoor.PX.X
open Go Go.RowKit Go.Lib Go.Proofs.YtjibadlbiapcmaaDoorW.PrintWords Go.Proofs.YtjibadlbiapcmaaDoor.PX
set_option linter.unusedVariables false
set_option linter.unusedSimpArgs false
def findF : List FileT → ByteArray → FileT
  | [], _ => z106
  | x :: l, s => if x.f0 = s then x else findF l s
theorem idxFrom_find (s : ByteArray) : ∀ (l : List FileT) (i : Nat), (Lib.idxByFrom (fun _ y => decide (y.f0 = s)) default l i = -1 ∧ findF l s = z106) ∨ ∃ k, ∃ h : k < l.length, Lib.idxByFrom (fun _ y => decide (y.f0 = s)) default l i = ((i + k : Nat) : Int) ∧ l[k] = findF l s
  | [], i => .inl ⟨rfl, rfl⟩
  | x :: l, i => by
    unfold Lib.idxByFrom findF
    by_cases h : x.f0 = s
    · refine .inr ⟨0, by simp, ?_, ?_⟩
      · rw [if_pos (decide_eq_true h)]
        rfl
      · rw [if_pos h]
        rfl
    · rw [if_neg (by simp [h]), if_neg h]
      rcases idxFrom_find s l (i + 1) with h1 | ⟨k, hk, h1, h2⟩
      · exact .inl h1
      · refine .inr ⟨k + 1, by simp; omega, ?_, ?_⟩
        · rw [h1]
          omega
        · rw [← h2]
          rfl
theorem idx_find (l : List FileT) (s : ByteArray) : (Lib.idxBy (fun _ y => decide (y.f0 = s)) l default = -1 ∧ findF l s = z106) ∨ ∃ k, ∃ h : k < l.length, Lib.idxBy (fun _ y => decide (y.f0 = s)) l default = (k : Int) ∧ l[k] = findF l s := by
  rcases idxFrom_find s l 0 with h | ⟨k, hk, h1, h2⟩
  · exact .inl h
  · refine .inr ⟨k, hk, ?_, h2⟩
    rw [Nat.zero_add] at h1
    exact h1
theorem litFind (o : FileT) (s : ByteArray) (gb : Nat) (W : World) (hg : gb < W.heap.size) (hc : W.cell? ⟨gb, 0, none⟩ = some (.string s)) :
    Calls Tryd.prog 129 #[.agg #[.string o.f0, .int .i64 o.f1, .string o.f2], .pointer (some ⟨gb, 0, none⟩)] W fun e w' => e = .returned (.bool (decide (o.f0 = s))) ∧ Below W.heap.size W w' := by
  have hne : gb ≠ W.heap.size := by omega
  have hb : (o.f0.toList == s.toList) = decide (o.f0 = s) := by
    by_cases h : o.f0 = s
    · rw [decide_eq_true h, h]
      exact beq_self_eq_true _
    · rw [decide_eq_false h]
      exact beq_eq_false_iff_ne.mpr (fun z => h (YtjibadlbiapcmaaDoorX.toList_inj z))
  generalize decide (o.f0 = s) = b at hb ⊢
  go_enter Tryd.func129, Tryd.ntmps129
  go_wp2
  go_ret
  exact ⟨rfl, (Below.refl _ W).alloc (Nat.le_refl _) _⟩
theorem find_eg (args : Array Value) (w : World) : (callFunc 129 args).run Tryd.prog w = .ok (.enter 129 args) w := enters_of Tryd.func129 (by kernel_rfl) rfl args w
set_option maxHeartbeats 1000000 in
set_option maxRecDepth 8000 in
theorem fileAt_calls (A0 : Option Addr) (c0 : Nat) (l0 : List FileT) (s : ByteArray) (w : World) (hr0 : Kd.C k106 w A0 l0.length l0) (hbig : l0.length ≤ 9223372036854775807) :
    Calls Tryd.prog 84 #[.slice A0 l0.length c0, .string s] w fun e w' => e = .returned (.agg #[.string (findF l0 s).f0, .int .i64 (findF l0 s).f1, .string (findF l0 s).f2]) ∧ Below w.heap.size w w' := by
  have HR := Lib.hid hr0
  clear hr0
  have hidx := idx_find l0 s
  have HCALL : ∀ (gb : Nat) (W : World), Below w.heap.size w W → W.cell? ⟨gb, 0, none⟩ = some (.string s) → Calls Tryd.prog 128 #[.slice A0 l0.length c0, .func (.func 129) #[] #[.pointer (some ⟨gb, 0, none⟩)]] W fun e w' => e = .returned (.int .i64 (Lib.idxBy (fun _ y => decide (y.f0 = s)) l0 default)) ∧ Below W.heap.size W w' := by
    intro gb W hbW hc
    have hg : gb < W.heap.size := World.block_lt_of_cell? W ⟨gb, 0, none⟩ hc
    refine idxFile (fun y => decide (y.f0 = s)) 129 _ find_eg l0 A0 c0 W (fun W2 x hx hb => ?_) (Kd.C_below HR.out hbW) hbig
    exact (litFind x s gb W2 (Nat.lt_of_lt_of_le hg hb.size) ((hb.cell (p := ⟨gb, 0, none⟩) hg).trans hc)).mono fun e w' ⟨he, hb'⟩ => ⟨he, hb.trans (hb'.mono hb.size)⟩
  have HC := Lib.hid HCALL
  clear HCALL
  generalize Lib.idxBy (fun _ y => decide (y.f0 = s)) l0 default = ix at hidx HC
  rcases hidx with ⟨rfl, hf⟩ | ⟨k, hk, rfl, hf⟩
  · rw [hf]
    go_enter Tryd.func84, Tryd.ntmps84
    go_wp2_with (first | ((with_reducible refine gate_dst (N := 3) rfl ?_); refine box_event ?hg (N := 3) ?hd (cs := #[.string s]) (t := 9) ?hr ?_; (case hd => rfl); (case hg => rfl); (case hr => first | (go_simp; done) | (go_simp; rfl)); intro gs hgs w1 hbox1 hb1; have HS := Lib.hid hbox1; have HB1 := Lib.hid hb1; have HGS := Lib.hid hgs; clear hbox1 hb1 hgs) | ((with_reducible refine gate_dst (N := 4) rfl ?_); refine box_event ?hg (N := 4) ?hd (cs := #[.string (⟨#[]⟩ : ByteArray), .int .i64 0, .string (⟨#[]⟩ : ByteArray)]) (t := 106) ?hr ?_; (case hd => rfl); (case hg => rfl); (case hr => first | (go_simp; done) | (go_simp; rfl)); intro gr hgr w2 hbox hb2; have HRB := Lib.hid hbox; have HB2 := Lib.hid hb2; have HGR := Lib.hid hgr; clear hbox hb2 hgr) | (go_at_call 128; (with_reducible refine (HC.out gs w2 (HB1.out.trans (HB2.out.mono HB1.out.size)) ((blk_cell (blk_below HS.out HB2.out) 0).trans rfl)).mono ?_); rintro e W3 ⟨rfl, hb3⟩; have hrr : W3.heap[gr]? = some (.cells #[.string (⟨#[]⟩ : ByteArray), .int .i64 0, .string (⟨#[]⟩ : ByteArray)] 106 (0, 0)) := blk_below HRB.out hb3; have hc0 : W3.cell? ⟨gr, 0, none⟩ = some (.string (⟨#[]⟩ : ByteArray)) := (blk_cell hrr 0).trans rfl; have hc1 : W3.cell? ⟨gr, 1, none⟩ = some (.int .i64 0) := (blk_cell hrr 1).trans rfl; have hc2 : W3.cell? ⟨gr, 2, none⟩ = some (.string (⟨#[]⟩ : ByteArray)) := (blk_cell hrr 2).trans rfl; have hf0 := blk_frozen hrr 0; have hf1 := blk_frozen hrr 1; have hf2 := blk_frozen hrr 2; have R3 := Lib.hid hrr; have B3 := Lib.hid hb3; clear hrr hb3))
    have hgr : w.heap.size ≤ gr := by
      have h1 := HGR.out
      have h2 := HB1.out.size
      omega
    have hbw : Below w.heap.size w W3 := HB1.out.trans ((HB2.out.trans (B3.out.mono HB2.out.size)).mono HB1.out.size)
    refine bodyPost_ret (results_cell_row rfl _ _ gr 106 #[.string (⟨#[]⟩ : ByteArray), .int .i64 0, .string (⟨#[]⟩ : ByteArray)] (0, 0) _ rfl (blk_set (blk_set (blk_set R3.out 0 (.string (⟨#[]⟩ : ByteArray))) 1 (.int .i64 0)) 2 (.string (⟨#[]⟩ : ByteArray))) Tryd.underlying106 rfl (by kernel_rfl)) rfl ?_
    exact ⟨rfl, below_set (below_set (below_set hbw hgr) hgr) hgr⟩
  · rw [← hf]
    have hkz : (0 : Int) ≤ (k : Int) := by omega
    have hkl : (k : Int) < (l0.length : Int) := by omega
    obtain ⟨ad, rfl, q0, q1, q2⟩ := at_T106 HR.out (k : Int) hkz hkl
    have hx : rd_T106 l0 (k : Int) = l0[k] := by
      show l0.getD ((k : Int)).toNat _ = _
      rw [Int.toNat_natCast, List.getD_eq_getElem?_getD, List.getElem?_eq_getElem hk, Option.getD_some]
    rw [hx] at q0 q1 q2
    rw [Int.toNat_natCast] at q0 q1 q2
    clear hx hf
    generalize l0[k] = y at q0 q1 q2 ⊢
    have Q0 := Lib.hid q0
    have Q1 := Lib.hid q1
    have Q2 := Lib.hid q2
    clear q0 q1 q2
    go_enter Tryd.func84, Tryd.ntmps84
    go_wp2_with (first | ((with_reducible refine gate_dst (N := 3) rfl ?_); refine box_event ?hg (N := 3) ?hd (cs := #[.string s]) (t := 9) ?hr ?_; (case hd => rfl); (case hg => rfl); (case hr => first | (go_simp; done) | (go_simp; rfl)); intro gs hgs w1 hbox1 hb1; have HS := Lib.hid hbox1; have HB1 := Lib.hid hb1; have HGS := Lib.hid hgs; clear hbox1 hb1 hgs) | ((with_reducible refine gate_dst (N := 4) rfl ?_); refine box_event ?hg (N := 4) ?hd (cs := #[.string (⟨#[]⟩ : ByteArray), .int .i64 0, .string (⟨#[]⟩ : ByteArray)]) (t := 106) ?hr ?_; (case hd => rfl); (case hg => rfl); (case hr => first | (go_simp; done) | (go_simp; rfl)); intro gr hgr w2 hbox hb2; have HRB := Lib.hid hbox; have HB2 := Lib.hid hb2; have HGR := Lib.hid hgr; clear hbox hb2 hgr) | (go_at_call 128; (with_reducible refine (HC.out gs w2 (HB1.out.trans (HB2.out.mono HB1.out.size)) ((blk_cell (blk_below HS.out HB2.out) 0).trans rfl)).mono ?_); rintro e W3 ⟨rfl, hb3⟩; have hrr : W3.heap[gr]? = some (.cells #[.string (⟨#[]⟩ : ByteArray), .int .i64 0, .string (⟨#[]⟩ : ByteArray)] 106 (0, 0)) := blk_below HRB.out hb3; have hc0 : W3.cell? ⟨gr, 0, none⟩ = some (.string (⟨#[]⟩ : ByteArray)) := (blk_cell hrr 0).trans rfl; have hc1 : W3.cell? ⟨gr, 1, none⟩ = some (.int .i64 0) := (blk_cell hrr 1).trans rfl; have hc2 : W3.cell? ⟨gr, 2, none⟩ = some (.string (⟨#[]⟩ : ByteArray)) := (blk_cell hrr 2).trans rfl; have hf0 := blk_frozen hrr 0; have hf1 := blk_frozen hrr 1; have hf2 := blk_frozen hrr 2; have R3 := Lib.hid hrr; have hbq : Below w.heap.size w W3 := HB1.out.trans ((HB2.out.trans (hb3.mono HB2.out.size)).mono HB1.out.size); have q0 := (hbq.cell (World.block_lt_of_cell? w _ Q0.out)).trans Q0.out; have q1 := (hbq.cell (World.block_lt_of_cell? w _ Q1.out)).trans Q1.out; have q2 := (hbq.cell (World.block_lt_of_cell? w _ Q2.out)).trans Q2.out; have B3 := Lib.hid hb3; clear hrr hb3 hbq))
    have hgr : w.heap.size ≤ gr := by
      have h1 := HGR.out
      have h2 := HB1.out.size
      omega
    have hbw : Below w.heap.size w W3 := HB1.out.trans ((HB2.out.trans (B3.out.mono HB2.out.size)).mono HB1.out.size)
    refine bodyPost_ret (results_cell_row rfl _ _ gr 106 #[.string y.f0, .int .i64 y.f1, .string y.f2] (0, 0) _ rfl (blk_set (blk_set (blk_set R3.out 0 (.string y.f0)) 1 (.int .i64 y.f1)) 2 (.string y.f2)) Tryd.underlying106 rfl (by kernel_rfl)) rfl ?_
    exact ⟨rfl, below_set (below_set (below_set hbw hgr) hgr) hgr⟩
end Go.Proofs.YtjibadlbiapcmaaDoor.PX.X

namespace Go.Proofs.YtjibadlbiapcmaaDoor.PX.X
open Go Go.RowKit Go.Lib Go.Proofs.YtjibadlbiapcmaaDoorW.PrintWords
set_option linter.unusedVariables false
def inDirV (a b : ByteArray) : Bool := if b.size + 1 < a.size then ((a.extract 0 (b.size + 1)).toList == (b ++ (⟨#[47]⟩ : ByteArray)).toList) else false
theorem inDir_calls (a b : ByteArray) (w : World) (ha : a.size ≤ 140737488351232) (hb : b.size ≤ 140737488351232) :
    Calls Tryd.prog 127 #[.string a, .string b] w fun e w' => e = .returned (.bool (inDirV a b)) ∧ w = w' := by
  unfold inDirV
  by_cases h : b.size + 1 < a.size
  · rw [if_pos h]
    have h2 : (b.size : Int) + 1 < (a.size : Int) := by omega
    have h3 : (b.size : Int) + 1 ≤ (a.size : Int) := by omega
    have h4 : (0 : Int) ≤ (b.size : Int) + 1 := by omega
    go_enter Tryd.func127, Tryd.ntmps127
    go_wp2
    go_ret
    exact ⟨rfl, rfl⟩
  · rw [if_neg h]
    have h2 : (a.size : Int) ≤ (b.size : Int) + 1 := by omega
    go_enter Tryd.func127, Tryd.ntmps127
    go_wp2
    go_ret
    exact ⟨rfl, rfl⟩
theorem litFiles (o : FileT) (a : ByteArray) (gb : Nat) (W : World) (hg : gb < W.heap.size) (hc : W.cell? ⟨gb, 0, none⟩ = some (.string a)) (ha : a.size ≤ 140737488351232) (hb : o.f0.size ≤ 140737488351232) :
    Calls Tryd.prog 126 #[.agg #[.string o.f0, .int .i64 o.f1, .string o.f2], .pointer (some ⟨gb, 0, none⟩)] W fun e w' => e = .returned (.bool (inDirV a o.f0)) ∧ Below W.heap.size W w' := by
  have hne : gb ≠ W.heap.size := by omega
  have HC := Lib.hid (fun w => inDir_calls a o.f0 w ha hb)
  clear ha hb
  go_enter Tryd.func126, Tryd.ntmps126
  go_wp2_with (go_at_call 127; refine (HC.out _).mono ?_; rintro e w' ⟨rfl, rfl⟩)
  go_ret
  exact ⟨rfl, (Below.refl _ W).alloc (Nat.le_refl _) _⟩
end Go.Proofs.YtjibadlbiapcmaaDoor.PX.X

namespace Go.Proofs.YtjibadlbiapcmaaDoor.PX
open Go.RowKit Go.Proofs.YtjibadlbiapcmaaDoorW.PrintWords Go.Proofs.YtjibadlbiapcmaaDoorW.PrintLast Go.Proofs.YtjibadlbiapcmaaDoorW.PrintMore
attribute [local go_sem] max2_int min2_int max_two min_two max_three min_three max_four min_four   -- for this text's walks alone
set_option linter.unusedVariables false
set_option linter.unusedSimpArgs false

/-! ### impl_File_125_FilesFault_1: function 125 -/
def impl_File_125_FilesFault_1.ok (l0 : List X.FileT) (a1 : ByteArray) : Bool := decide (a1.size ≤ 140737488351232) && l0.all fun o => decide (o.f0.size ≤ 140737488351232)
def impl_File_125_FilesFault_1.f (l0 : List X.FileT) (a1 : ByteArray) (a2 : Int) (a3 : ByteArray) : Option Bool := if impl_File_125_FilesFault_1.ok l0 a1 = true then (if l0.length ≤ 9223372036854775807 then some (l0.any fun o => X.inDirV a1 o.f0) else none) else none
theorem impl_File_125_FilesFault_1.eg (args : Array Value) (w : World) : (callFunc 126 args).run Tryd.prog w = .ok (.enter 126 args) w := enters_of Tryd.func126 (by kernel_rfl) rfl args w
theorem impl_File_125_FilesFault_1.calls (A0 : Option Addr) (c0 : Nat) (l0 : List X.FileT) (a1 : ByteArray) (a2 : Int) (a3 : ByteArray) (r : Bool) (w : World) (hr0 : Kd.C k106 w A0 l0.length l0) (hc0 : l0.length ≤ c0) (h : impl_File_125_FilesFault_1.f l0 a1 a2 a3 = some r) {gb : Nat} (hcell : w.cell? ⟨gb, 0, none⟩ = some (.string a1) := by first | assumption | exact (World.cell?_setCell_other _ _ _ _ (by simp)).trans ((World.cell?_setCell_other _ _ _ _ (by simp)).trans (World.cell?_setCell_same _ _ _ (by assumption))) | (simp; done) | (simp [*]; done)) :
  Calls Tryd.prog 125 #[.slice A0 l0.length c0, .func (.func 126) #[] #[.pointer (some ⟨gb, 0, none⟩)]] w fun e w' => e = .returned (.bool r) ∧ Below w.heap.size w w' := by
 unfold impl_File_125_FilesFault_1.f at h
 by_cases hk : impl_File_125_FilesFault_1.ok l0 a1 = true
 ·
  rw [if_pos hk] at h
  by_cases hl : l0.length ≤ 9223372036854775807
  ·
   rw [if_pos hl] at h
   obtain rfl := Option.some.inj h
   unfold impl_File_125_FilesFault_1.ok at hk
   simp only [Bool.and_eq_true, decide_eq_true_eq, List.all_eq_true] at hk
   have hg : gb < w.heap.size := zL w ⟨gb, 0, none⟩ hcell
   refine X.conFile (fun o => X.inDirV a1 o.f0) 126 _ impl_File_125_FilesFault_1.eg l0 A0 c0 w (fun W x hx hb => ?_) hr0 hl
   have hcW : W.cell? ⟨gb, 0, none⟩ = some (.string a1) := (hb.cell (p := ⟨gb, 0, none⟩) hg).trans hcell
   exact (X.litFiles x a1 gb W (Nat.lt_of_lt_of_le hg hb.size) hcW hk.1 (hk.2 x hx)).mono fun e w' ⟨he, hb'⟩ => ⟨he, hb.trans (hb'.mono hb.size)⟩
  ·
   rw [if_neg hl] at h
   cases h
 ·
  rw [if_neg hk] at h
  cases h


/-! ### impl_fileAt: function 84 -/
def impl_fileAt.f (l0 : List X.FileT) (a1 : ByteArray) : Option (ByteArray × Int × ByteArray) := if l0.length ≤ 1048576 then some ((X.findF l0 a1).f0, (X.findF l0 a1).f1, (X.findF l0 a1).f2) else none
theorem impl_fileAt.calls (A0 : Option Addr) (c0 : Nat) (l0 : List X.FileT) (a1 : ByteArray) (r1 : ByteArray) (r2 : Int) (r3 : ByteArray) (w : World) (hr0 : Kd.C k106 w A0 l0.length l0) (hc0 : l0.length ≤ c0) (h : impl_fileAt.f l0 a1 = some (r1, r2, r3)) :
  Calls Tryd.prog 84 #[.slice A0 l0.length c0, .string a1] w fun e w' => e = .returned (.agg #[.string r1, .int .i64 r2, .string r3]) ∧ Below w.heap.size w w' := by
 unfold impl_fileAt.f at h
 by_cases hk : l0.length ≤ 1048576
 ·
  rw [if_pos hk] at h
  have h2 := Option.some.inj h
  simp only [Prod.mk.injEq] at h2
  obtain ⟨rfl, rfl, rfl⟩ := h2
  exact X.fileAt_calls A0 c0 l0 a1 w hr0 (by omega)
 ·
  rw [if_neg hk] at h
  cases h

end Go.Proofs.YtjibadlbiapcmaaDoor.PX
