/- Texts of this claim set one behind another by wip/bundle.py: XDelF. -/
import Derived.Test.YtjibadlbiapcmaaDoorBAD18
import Derived.Test.YtjibadlbiapcmaaDoorBAD17
import Derived.Test.YtjibadlbiapcmaaDoorBAD10
import Derived.Laws.CopyOwn
import Derived.Lib.SliceRun
import Derived.Lib.Hide
namespace Go.Proofs.YtjibadlbiapcmaaDoor.PX.X
open Go Go.RowKit Go.Lib Go.Proofs.YtjibadlbiapcmaaDoorW.PrintWords
set_option linter.unusedVariables false
set_option linter.unusedSimpArgs false
theorem delIdxF (p : FileT → Bool) : ∀ (l : List FileT) (i : Nat), (Lib.idxByFrom (fun _ y => p y) default l i = -1 ∧ ∀ x ∈ l, p x = false) ∨ ∃ k, ∃ h : k < l.length, Lib.idxByFrom (fun _ y => p y) default l i = ((i + k : Nat) : Int) ∧ p l[k] = true ∧ ∀ x ∈ l.take k, p x = false
  | [], i => .inl ⟨rfl, fun x hx => absurd hx List.not_mem_nil⟩
  | y :: l, i => by
    unfold Lib.idxByFrom
    cases h : p y with
    | true => exact .inr ⟨0, by simp, by rw [if_pos rfl]; rfl, h, fun x hx => by simp at hx⟩
    | false =>
      rw [if_neg (by decide)]
      rcases delIdxF p l (i + 1) with ⟨h1, h2⟩ | ⟨k, hk, h1, h2, h3⟩
      · exact .inl ⟨h1, fun x hx => by rcases List.mem_cons.1 hx with rfl | hx; exact h; exact h2 x hx⟩
      · refine .inr ⟨k + 1, by simp; omega, by rw [h1]; omega, by simpa using h2, fun x hx => ?_⟩
        rw [List.take_succ_cons] at hx
        rcases List.mem_cons.1 hx with rfl | hx
        · exact h
        · exact h3 x hx
theorem keep_of_below {w W : World} {g : Nat} (h : Below w.heap.size w W) : KeepBut w W g none := ⟨h.size, fun i hi _ _ => h.block i hi⟩
theorem blk_alloc_ne {w : World} {g : Nat} (h : g < w.heap.size) (o : Obj) : (w.alloc o).heap[g]? = w.heap[g]? := by
  show (w.heap.push o)[g]? = _
  rw [Array.getElem?_push_lt h, Array.getElem?_eq_getElem h]
theorem cell_same {w W : World} {g : Nat} (h : W.heap[g]? = w.heap[g]?) (j : Nat) : W.cell? ⟨g, j, none⟩ = w.cell? ⟨g, j, none⟩ := by
  unfold World.cell?
  simp only [h]
theorem frozen_same {w W : World} {g : Nat} (h : W.heap[g]? = w.heap[g]?) (j : Nat) : W.frozen? ⟨g, j, none⟩ = w.frozen? ⟨g, j, none⟩ := by
  unfold World.frozen?
  simp only [h]
theorem keep_put {w W : World} {g : Nat} (h : KeepBut w W g none) (j : Nat) (v : Value) : KeepBut w (W.setCell ⟨g, j, none⟩ v) g none :=
  ⟨by have h1 := h.1; have h2 : (W.setCell ⟨g, j, none⟩ v).heap.size = W.heap.size := by simp [World.setCell]
      omega, fun i hi hne hr => (Below.heap_setCell W ⟨g, j, none⟩ v i hne).trans (h.2 i hi hne hr)⟩
theorem del_rest {α : Type} {enc : α → List Value} (ey : List Value) (k : Nat) (hk : k ≤ k) (hl : ey.length = k) (cu : List Value) (j n : Nat) {y : α} {zs : List α} (h5 : (cu.drop (j * k)).take ((n - j) * k) = flat enc (zs.drop j)) (hd : zs.drop j = y :: zs.drop (j + 1)) (hlt : j < n) (he : enc y = ey := by rfl) : (cu.drop ((j + 1) * k)).take ((n - (j + 1)) * k) = flat enc (zs.drop (j + 1)) := by
  rw [hd, flat_cons, he] at h5
  have h6 := congrArg (List.drop k) h5
  rw [← hl, List.drop_left, hl, List.drop_take, List.drop_drop] at h6
  rw [← h6, Nat.add_mul, Nat.one_mul]
  congr 1
  rw [show n - j = n - (j + 1) + 1 by omega, Nat.add_mul, Nat.one_mul, Nat.add_sub_cancel]
theorem setsF (l : List Value) (a : Nat) (v0 v1 v2 : Value) (h : a + 3 ≤ l.length) : ((l.set a v0).set (a + 1) v1).set (a + 2) v2 = putCells l a [v0, v1, v2] := by
  rw [← putCells_cons (l) (a) v0 [v1, v2] (by simp only [List.length_set, List.length_cons, List.length_nil]; omega), ← putCells_cons ((l).set (a) v0) (a + 1) v1 [v2] (by simp only [List.length_set, List.length_cons, List.length_nil]; omega), ← putCells_cons (((l).set (a) v0).set (a + 1) v1) (a + 2) v2 [] (by simp only [List.length_set, List.length_cons, List.length_nil]; omega), putCells_nil]
set_option maxHeartbeats 2000000 in
set_option maxRecDepth 100000 in
theorem deleteF (p : FileT → Bool) (fn : Nat) (lb : Array Value) (eg : ∀ args w, (callFunc fn args).run Tryd.prog w = .ok (.enter fn args) w) (w : World) (base g c : Nat) (zs : List FileT) (cur : Array Value)
    (hp : ∀ (W : World) (x : FileT), x ∈ zs → KeepBut w W g none → Calls Tryd.prog fn (#[.agg #[.string x.f0, .int .i64 x.f1, .string x.f2]] ++ lb) W fun e w' => e = .returned (.bool (p x)) ∧ Below W.heap.size W w')
    (hg : w.heap[g]? = some (.cells cur 106 (0, 0))) (hb : base ≤ g) (hlc : zs.length ≤ c) (hcm : c ≤ maxLen) (hcs : cur.size = c * 3) (ht : cur.toList.take (zs.length * 3) = flat encF zs) :
    Calls Tryd.prog 130 #[.slice (some ⟨g, 0, none⟩) zs.length c, .func (.func fn) #[] lb] w fun e w' => ∃ v', e = .returned v' ∧ Kd.R k106 106 w' base (fun _ => True) v' (zs.filter fun x => !p x) ∧ ∀ w0, Below base w0 w → Below base w0 w' := by
  have hgw : g < w.heap.size := (Array.getElem?_eq_some_iff.1 hg).1
  have hR : Kd.R k106 106 w base (fun _ => True) (.slice (some ⟨g, 0, none⟩) zs.length c) zs := R_of_flat flatF ⟨flat_len flatF.len zs, .inr ⟨g, c, cur, rfl, hb, hg, hlc, hcm, hcs, ht⟩⟩
  have hC := (Kd.R_reads' hR).2.2
  have hidx := idxFile p fn lb eg zs (some ⟨g, 0, none⟩) c w (fun W x hx hW => (hp W x hx (keep_of_below hW)).mono fun e w' ⟨he, hb'⟩ => ⟨he, hW.trans (hb'.mono hW.size)⟩) hC (by unfold maxLen at hcm; omega)
  have hcases := delIdxF p zs 0
  have hc63 : c ≤ 9223372036854775807 := by unfold maxLen at hcm; omega
  have HIX := Lib.hid hidx
  have HR := Lib.hid hR
  have HP := Lib.hid hp
  have HG := Lib.hid hg
  have HT := Lib.hid ht
  have HCS := Lib.hid hcs
  have HB := Lib.hid hb
  have HCM := Lib.hid hcm
  clear hidx hR hp hg ht hcs hC hcm
  unfold Lib.idxBy at HIX
  generalize Lib.idxByFrom (fun _ y => p y) default zs 0 = ix at HIX hcases
  rcases hcases with ⟨rfl, hall⟩ | ⟨k0, hk0, rfl, hp0, hall⟩
  · have hf : zs.filter (fun x => !p x) = zs := List.filter_eq_self.mpr fun x hx => by rw [hall x hx]; rfl
    rw [hf]
    clear hall hf
    go_enter Tryd.func130, Tryd.ntmps130
    go_wp2_with (go_at_call 128; (with_reducible refine HIX.out.mono ?_); rintro e w' ⟨rfl, hb'⟩; have HBB := Lib.hid hb'; clear hb')
    go_ret
    exact ⟨_, rfl, Kd.R_below HR.out HBB.out, fun w0 h => h.trans (HBB.out.mono (by have := HB.out; omega))⟩
  · rw [Nat.zero_add] at HIX
    obtain ⟨n, hn⟩ : ∃ n, zs.length = n := ⟨_, rfl⟩
    have HN := Lib.hid hn
    rw [hn] at hk0 hlc HIX HT HR
    have hnz : (k0 : Int) ≤ 9223372036854775806 := by omega
    have hne1 : ((k0 : Int) == -1) = false := beq_eq_false_iff_ne.2 (by omega)
    have HALL := Lib.hid hall
    have HP0 := Lib.hid hp0
    rw [hn]
    clear hall hp0 hn
    go_enter Tryd.func130, Tryd.ntmps130
    go_wp2_with (go_at_call 128; (with_reducible refine HIX.out.mono ?_); rintro e w1 ⟨rfl, hb'⟩; have HB1 := Lib.hid hb'; clear hb')
    go_loopg [5, 6, 7] n (fun gg s5 s6 _ wr => ∃ (i j : Nat) (cu : List Value), s5 = .int .i64 i ∧ s6 = .int .i64 j ∧ i < j ∧ j ≤ n ∧ n - j ≤ gg ∧ Aside (wr.heap[g]? = some (.cells cu.toArray 106 (0, 0)) ∧ cu.length = c * 3 ∧ cu.take (i * 3) = flat encF ((zs.take j).filter fun x => !p x) ∧ ((zs.take j).filter fun x => !p x).length = i ∧ (cu.drop (j * 3)).take ((n - j) * 3) = flat encF (zs.drop j)) ∧ Aside (KeepBut w wr g none) ∧ Aside (∀ w0, Below base w0 w → Below base w0 wr))
    case atStart =>
      have hlz : k0 < zs.length := by rw [HN.out]; exact hk0
      have hft : (zs.take (k0 + 1)).filter (fun x => !p x) = zs.take k0 := by
        rw [List.take_succ_eq_append_getElem hlz, List.filter_append, show [zs[k0]].filter (fun x => !p x) = [] from by simp [HP0.out], List.append_nil]
        exact List.filter_eq_self.mpr fun x hx => by rw [HALL.out x hx]; rfl
      have htk : cur.toList.take (k0 * 3) = flat encF (zs.take k0) := by
        rw [flat_take flatF.len zs k0 (by omega), ← HT.out, List.take_take, Nat.min_eq_left (by omega)]
      have hlen : cur.toList.length = c * 3 := by rw [Array.length_toList]; exact HCS.out
      refine ⟨k0, k0 + 1, cur.toList, rfl, by go_num, by omega, by omega, by omega, (show Aside _ from ⟨?_, hlen, ?_, ?_, ?_⟩), (show Aside _ from keep_of_below HB1.out), (show Aside _ from fun w0 h0 => h0.trans (HB1.out.mono (by have := HB.out; omega)))⟩
      · rw [Array.toArray_toList]
        exact (HB1.out.block g hgw).trans HG.out
      · rw [hft]
        exact htk
      · rw [hft, List.length_take]
        omega
      · rw [flat_drop flatF.len zs (k0 + 1) (by omega), ← HT.out, List.drop_take]
        congr 1
        omega
    case round =>
      obtain ⟨i, j, cu, rfl, rfl, hij, hjn, hgg, AH, AK, AB⟩ := hrel
      by_cases hlt : j < n
      · have hltz : (j : Int) < (n : Int) := by omega
        have hjl : j < zs.length := by rw [HN.out]; exact hlt
        have hxs : zs[j]? = some (zs[j]'hjl) := List.getElem?_eq_getElem _
        have hmem := List.mem_of_getElem? hxs
        have hdrop : zs.drop j = zs[j]'hjl :: zs.drop (j + 1) := List.drop_eq_getElem_cons hjl
        have htake : zs.take (j + 1) = zs.take j ++ [zs[j]'hjl] := List.take_succ_eq_append_getElem hjl
        generalize zs[j]'hjl = y at hxs hmem hdrop htake
        have hcl : ∀ q v, (encF y)[q]? = some v → wr.cell? ⟨g, j * 3 + q, none⟩ = some v := fun q v hv => by
          obtain ⟨h1, h2, h3, h4, h5⟩ := AH.out
          refine (blk_cell h1 _).trans ?_
          rw [List.getElem?_toArray]
          have h6 : ((cu.drop (j * 3)).take ((n - j) * 3))[q]? = some v := by
            rw [h5, hdrop, flat_cons]
            rw [List.getElem?_append_left (List.getElem?_eq_some_iff.1 hv).1]
            exact hv
          have hq := (List.getElem?_eq_some_iff.1 h6).1
          rw [List.length_take] at hq
          rw [List.getElem?_take_of_lt (by omega), List.getElem?_drop] at h6
          exact h6
        have q0 : wr.cell? ⟨g, j * 3, none⟩ = some (.string y.f0) := hcl 0 _ rfl
        have q1 : wr.cell? ⟨g, j * 3 + 1, none⟩ = some (.int .i64 y.f1) := hcl 1 _ rfl
        have q2 : wr.cell? ⟨g, j * 3 + 2, none⟩ = some (.string y.f2) := hcl 2 _ rfl
        have hhole : ∀ q, q < 3 → (∃ v, wr.cell? ⟨g, i * 3 + q, none⟩ = some v) ∧ wr.frozen? ⟨g, i * 3 + q, none⟩ = false := fun q hq => by
          obtain ⟨h1, h2, h3, h4, h5⟩ := AH.out
          refine ⟨⟨cu[i * 3 + q]'(by rw [h2]; omega), (blk_cell h1 _).trans ?_⟩, blk_frozen h1 _⟩
          rw [List.getElem?_toArray]
          exact List.getElem?_eq_getElem _
        have HH := Lib.hid hhole
        have HY := Lib.hid hmem
        have HD := Lib.hid hdrop
        have HTK := Lib.hid htake
        have hl2 : Sem.run Tryd.prog (loadCellsFrom ⟨g, j * 3, none⟩ 0 3 #[]) wr = .ok #[.string y.f0, .int .i64 y.f1, .string y.f2] wr := run_loadCellsFrom_list _ _ _ (encF y) 3 rfl (fun q v hv => by rw [Addr.add_lit]; exact hcl q v hv)
        clear hcl hhole hmem hdrop htake hxs
        have hcall := HP.out (wr.alloc (.cells #[.string y.f0, .int .i64 y.f1, .string y.f2] 106)) y HY.out (keep_alloc AK.out _)
        have HGL := Lib.hid (Nat.lt_of_lt_of_le hgw AK.out.1)
        cases hq : p y with
        | false =>
          rw [hq] at hcall
          go_wp2_with (go_at_fn fn; (with_reducible refine hcall.mono ?_); rintro e W3 ⟨rfl, hb3⟩; have hvb : W3.heap[wr.heap.size]? = some (.cells #[.string y.f0, .int .i64 y.f1, .string y.f2] 106 (0, 0)) := (hb3.block _ (by simp)).trans (blk_new wr _); have hv0 : W3.cell? ⟨wr.heap.size, 0, none⟩ = some (.string y.f0) := (blk_cell hvb 0).trans rfl;  have hv1 : W3.cell? ⟨wr.heap.size, 1, none⟩ = some (.int .i64 y.f1) := (blk_cell hvb 1).trans rfl;  have hv2 : W3.cell? ⟨wr.heap.size, 2, none⟩ = some (.string y.f2) := (blk_cell hvb 2).trans rfl; have hgr3 : W3.heap[g]? = wr.heap[g]? := (hb3.block g (by have := HGL.out; simp; omega)).trans (blk_alloc_ne HGL.out _); obtain ⟨o0, ho0⟩ := (HH.out 0 (by decide)).1; have hr0 : W3.cell? ⟨g, i * 3, none⟩ = some o0 := (cell_same hgr3 _).trans ho0; have hz0 : W3.frozen? ⟨g, i * 3, none⟩ = false := (frozen_same hgr3 _).trans (HH.out 0 (by decide)).2;  obtain ⟨o1, ho1⟩ := (HH.out 1 (by decide)).1; have hr1 : W3.cell? ⟨g, i * 3 + 1, none⟩ = some o1 := (cell_same hgr3 _).trans ho1; have hz1 : W3.frozen? ⟨g, i * 3 + 1, none⟩ = false := (frozen_same hgr3 _).trans (HH.out 1 (by decide)).2;  obtain ⟨o2, ho2⟩ := (HH.out 2 (by decide)).1; have hr2 : W3.cell? ⟨g, i * 3 + 2, none⟩ = some o2 := (cell_same hgr3 _).trans ho2; have hz2 : W3.frozen? ⟨g, i * 3 + 2, none⟩ = false := (frozen_same hgr3 _).trans (HH.out 2 (by decide)).2; have H3 := Lib.hid hb3; have HG3 := Lib.hid hgr3; clear hb3 hgr3 hvb)
          go_roundg (n - (j + 1))
          case measure => omega
          case rel =>
            obtain ⟨h1, h2, h3, h4, h5⟩ := AH.out
            have hpl : i * 3 + (encF y).length ≤ cu.length := by rw [h2]; show i * 3 + 3 ≤ _; omega
            have hk4 : w.heap.size ≤ wr.heap.size := AK.out.1
            have hb4 : base ≤ wr.heap.size := by have := HGL.out; have := HB.out; omega
            have hs3 : (wr.alloc (.cells #[.string y.f0, .int .i64 y.f1, .string y.f2] 106)).heap.size ≤ W3.heap.size := H3.out.size
            have hs4 : (wr.alloc (.cells #[.string y.f0, .int .i64 y.f1, .string y.f2] 106)).heap.size = wr.heap.size + 1 := by simp
            refine ⟨i + 1, j + 1, putCells cu (i * 3) (encF y), by go_num, by go_num, by omega, by omega, Nat.le_refl _, (show Aside _ from ⟨?_, ?_, ?_, ?_, ?_⟩), (show Aside _ from keep_put (keep_put (keep_put ?_ _ _) _ _) _ _), (show Aside _ from fun w0 h0 => ?_)⟩
            · have h6 : W3.heap[g]? = some (.cells cu.toArray 106 (0, 0)) := HG3.out.trans h1
              have h7 := blk_set (blk_set (blk_set (h6) (i * 3) (.string y.f0)) (i * 3 + 1) (.int .i64 y.f1)) (i * 3 + 2) (.string y.f2)
              simp only [List.setIfInBounds_toArray] at h7
              rw [setsF cu (i * 3) _ _ _ (by rw [h2]; omega)] at h7
              exact h7
            · rw [putCells_len _ _ _ hpl, h2]
            · rw [Nat.add_mul, Nat.one_mul, HTK.out, List.filter_append, flat_append, ← h3]
              rw [show [y].filter (fun x => !p x) = [y] from by simp [hq], flat_one]
              exact putCells_take cu (i * 3) (encF y) hpl
            · rw [HTK.out, List.filter_append, show [y].filter (fun x => !p x) = [y] from by simp [hq], List.length_append, h4]
              rfl
            · rw [putCells_drop cu (i * 3) ((j + 1) * 3) (encF y) (by show i * 3 + 3 ≤ _; omega) (by rw [h2]; omega)]
              exact del_rest (encF y) 3 (Nat.le_refl _) rfl cu j n h5 HD.out hlt
            · exact ⟨Nat.le_trans hk4 (Nat.le_trans (by rw [hs4]; exact Nat.le_succ _) hs3), fun q hq1 hq2 _ => (H3.out.block q (by rw [hs4]; exact Nat.lt_succ_of_lt (Nat.lt_of_lt_of_le hq1 hk4))).trans ((blk_alloc_ne (Nat.lt_of_lt_of_le hq1 hk4) _).trans (AK.out.2 q hq1 hq2 (by simp)))⟩
            · exact Below.setCell (p := ⟨g, _, none⟩) (Below.setCell (p := ⟨g, _, none⟩) (Below.setCell (p := ⟨g, _, none⟩) (((AB.out w0 h0).alloc hb4 _).trans (H3.out.mono (by rw [hs4]; omega))) HB.out _) HB.out _) HB.out _
        | true =>
          rw [hq] at hcall
          go_wp2_with (go_at_fn fn; (with_reducible refine hcall.mono ?_); rintro e W3 ⟨rfl, hb3⟩; have H3 := Lib.hid hb3; clear hb3)
          go_roundg (n - (j + 1))
          case measure => omega
          case rel =>
            obtain ⟨h1, h2, h3, h4, h5⟩ := AH.out
            have hk4 : w.heap.size ≤ wr.heap.size := AK.out.1
            have hb4 : base ≤ wr.heap.size := by have := HGL.out; have := HB.out; omega
            have hs3 : (wr.alloc (.cells #[.string y.f0, .int .i64 y.f1, .string y.f2] 106)).heap.size ≤ W3.heap.size := H3.out.size
            have hs4 : (wr.alloc (.cells #[.string y.f0, .int .i64 y.f1, .string y.f2] 106)).heap.size = wr.heap.size + 1 := by simp
            refine ⟨i, j + 1, cu, rfl, by go_num, by omega, by omega, Nat.le_refl _, (show Aside _ from ⟨?_, h2, ?_, ?_, ?_⟩), (show Aside _ from ?_), (show Aside _ from fun w0 h0 => ?_)⟩
            · exact (H3.out.block g (by rw [hs4]; have := HGL.out; omega)).trans ((blk_alloc_ne HGL.out _).trans h1)
            · rw [HTK.out, List.filter_append, show [y].filter (fun x => !p x) = [] from by simp [hq], List.append_nil]
              exact h3
            · rw [HTK.out, List.filter_append, show [y].filter (fun x => !p x) = [] from by simp [hq], List.append_nil]
              exact h4
            · exact del_rest (encF y) 3 (Nat.le_refl _) rfl cu j n h5 HD.out hlt
            · exact ⟨Nat.le_trans hk4 (Nat.le_trans (by rw [hs4]; exact Nat.le_succ _) hs3), fun q hq1 hq2 _ => (H3.out.block q (by rw [hs4]; exact Nat.lt_succ_of_lt (Nat.lt_of_lt_of_le hq1 hk4))).trans ((blk_alloc_ne (Nat.lt_of_lt_of_le hq1 hk4) _).trans (AK.out.2 q hq1 hq2 (by simp)))⟩
            · exact ((AB.out w0 h0).alloc hb4 _).trans (H3.out.mono (by rw [hs4]; omega))
      · have hje : j = n := by omega
        obtain ⟨h1, h2, h3, h4, h5⟩ := AH.out
        have hltz : ¬ (j : Int) < (n : Int) := by omega
        obtain ⟨RW, hRW⟩ : ∃ RW, RW = cu.take (i * 3) ++ (Builtin.zeroCells (Value.agg #[.string ⟨#[]⟩, .int .i64 0, .string ⟨#[]⟩]).cells (n - i)).toList ++ cu.drop (i * 3 + (n - i) * 3) := ⟨_, rfl⟩
        have hclr : ∀ ty c2, (Builtin.clear_ #[24] ty #[.slice (some ⟨g, i * 3, none⟩) (n - i) c2]).run Tryd.prog wr = .ok (.tuple #[]) (wr.setRow g RW.toArray) := fun ty c2 => by
          rw [hRW]
          exact run_clear_rowk wr 24 106 ty (.agg #[.string ⟨#[]⟩, .int .i64 0, .string ⟨#[]⟩]) 3 Tryd.underlying24 Tryd.zeroValue106 rfl (fun u hu => by
            have hu' : u ∈ [Value.string ⟨#[]⟩, Value.int .i64 0, Value.string ⟨#[]⟩] := hu
            simp only [List.mem_cons, List.not_mem_nil, or_false] at hu'
            rcases hu' with rfl | rfl | rfl
            all_goals rfl) g (i * 3) (n - i) c2 (by omega) cu.toArray 106 h1 (by rw [List.size_toArray, h2]; omega)
        have hfl : (zs.filter fun x => !p x).length = i ∧ cu.take (i * 3) = flat encF (zs.filter fun x => !p x) := by
          rw [hje, ← HN.out, List.take_length] at h3 h4
          exact ⟨h4, h3⟩
        have HF := Lib.hid hfl
        have H1 := Lib.hid h1
        have H2 := Lib.hid h2
        have hin : i < n := by omega
        have hic : ¬ (c = i) := by omega
        have hic2 : i ≤ c := by omega
        have hin2 : i ≤ n := by omega
        have HRW := Lib.hid hRW
        clear h1 h2 h3 h4 h5 hfl hRW
        go_wp2
        go_ret
        refine ⟨_, rfl, R_of_flat flatF ?_, fun w0 h0 => below_setRow (AB.out w0 h0) HB.out _⟩
        have hi' := HF.out.1
        have hZ : RW.length = c * 3 := by
          rw [HRW.out]
          simp only [List.length_append, List.length_take, List.length_drop, zeroCells_len, H2.out]
          show _ + (n - i) * 3 + _ = _
          omega
        have hT : RW.take (i * 3) = flat encF (zs.filter fun x => !p x) := by
          rw [HRW.out, List.append_assoc, List.take_left' (by rw [List.length_take, H2.out]; omega)]
          exact HF.out.2
        have hv : (Value.slice (some ⟨g, 0, none⟩) i c) = .slice (some ⟨g, 0, none⟩) (zs.filter fun x => !p x).length c := by rw [hi']
        show wr.setRow g RW.toArray |>.ownsRow base 106 3 (.slice (some ⟨g, 0, none⟩) i c) (zs.filter fun x => !p x).length _
        refine ⟨flat_len flatF.len _, .inr ⟨g, c, RW.toArray, hv, HB.out, setRow_heap wr g _ _ _ _ H1.out, by rw [hi']; exact hic2, HCM.out, by rw [List.size_toArray]; exact hZ, ?_⟩⟩
        rw [hi']
        exact hT
end Go.Proofs.YtjibadlbiapcmaaDoor.PX.X
