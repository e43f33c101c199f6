/- Texts of this claim set one behind another by wip/bundle.py: XInsF. -/
import Derived.Test.YtjibadlbiapcmaaDoorBAD18
import Derived.Shelf.Spec.SlicesInsert
import Derived.Lib.AppendZerosOnto
import Derived.Laws.NewBlocks
import Derived.Laws.CopyOwn
import Derived.Lib.SliceRun
import Derived.Lib.Hide
namespace Go.Proofs.YtjibadlbiapcmaaDoor.PX.X
open Go Go.RowKit Go.Lib Go.Proofs Go.Proofs.YtjibadlbiapcmaaDoorW.PrintWords
set_option linter.unusedVariables false
set_option linter.unusedSimpArgs false
set_option maxHeartbeats 1000000 in
theorem cloneF (A0 : Option Addr) (c0 : Nat) (l0 : List FileT) (w : World) (hr0 : Kd.C k106 w A0 l0.length l0) (hbig : l0.length * 40 ≤ 140737488355328) :
    Calls Tryd.prog 83 #[.slice A0 l0.length c0] w fun e w' => ∃ v, e = .returned v ∧ Kd.R k106 106 w' w.heap.size (fun _ => True) v l0 ∧ Below w.heap.size w w' := by
  have q22 : ∀ (w : World) (a : Option Addr) (n c n' c' : Nat), (binOp .eql 24 (.slice a n c) (.slice none n' c')).run Tryd.prog w = .ok (.bool a.isNone) w := fun w a n c n' c' => Lib.run_eql_slice_nil w _ _ a n c n' c' Tryd.underlying24
  cases A0 with
  | none =>
    have h0 : l0 = [] := by
      cases l0 with
      | nil => rfl
      | cons x l =>
        obtain ⟨ad, h, _⟩ := hr0.2.2 (by simp)
        cases h
    subst h0
    go_enter Tryd.func83, Tryd.ntmps83
    go_wp2
    go_ret
    exact ⟨_, rfl, Kd.R_nil _ _ _ _ _, Below.refl _ _⟩
  | some ad =>
    have HR := Lib.hid hr0
    clear hr0
    go_enter Tryd.func83, Tryd.ntmps83
    go_wp2_with (first | ((with_reducible refine gate_dst (N := 5) rfl ?_); refine Kd.R_lit k106 _ 106 ?hg (N := 5) ?hd (xs := ([] : List FileT)) (inner := []) (ok := fun _ => True) (okp := fun _ => True) ?hr ?hp (fun _ hk => hk) trivial (Below.refl _ _) (Nat.le_refl _) (by simp) ?_; (case hd => rfl); (case hg => rfl); (case hr => first | (go_simp; done) | (go_simp; rfl)); (case hp => exact (Reps.none _ _)); intro v3 w2 ho3 hb2 hg_ hnew_; clear hg_ hnew_; have HO := Lib.hid ho3; have HB2 := Lib.hid hb2; clear ho3 hb2) | ((with_reducible refine gate_builtin (b := .append) (xs := #[.tmp 5, .tmp 6]) rfl ?_); at_builtin; refine Kd.R_append_rows k106 (Rr := fun x cs => cs = encF x) (w0 := w) w.heap.size rfl (.tmp 5) (.tmp 6) 24 106 (.agg #[.string ⟨#[]⟩, .int .i64 0, .string ⟨#[]⟩]) 40 rfl Tryd.underlying24 info106 rfl (by decide) (by decide) v3 ([] : List FileT) l0 (some ad) l0.length c0 (fun _ => True) (fun _ => False) rfl rfl HO.out ((Kd.C_below HR.out HB2.out).imp_ (Below.refl _ _) (fun _ _ hp => flatF.K.1 hp)) (fun _ _ hp => flatF.M.2 hp) (fun _ hk => hk.elim) (fun _ _ => trivial) HB2.out (below_size HB2.out) (by rw [List.length_nil, Nat.zero_add]; exact hbig) ?_; intro v5 w5 ho5 hb5 hg5 hat5; have O5 := Lib.hid ho5; have B5 := Lib.hid hb5; clear ho5 hb5 hg5 hat5))
    go_ret
    exact ⟨_, rfl, by have := O5.out; rw [List.nil_append] at this; exact this, B5.out⟩
theorem oneF {w : World} {vb : Nat} {x : FileT} (h : w.heap[vb]? = some (.cells #[.string x.f0, .int .i64 x.f1, .string x.f2] 106 (0, 0))) : ReadsRow (fun x cs => cs = encF x) 3 w (some ⟨vb, 0, none⟩) 1 [x] := by
  refine ⟨rfl, by decide, fun _ => ⟨_, rfl, fun j p hj => ?_⟩⟩
  match j, hj with
  | 0, hj =>
    have e : x = p := Option.some.inj hj
    subst e
    refine ⟨encF x, rfl, rfl, fun i u hu => ?_⟩
    rw [add_plain, Nat.zero_mul, Nat.zero_add]
    exact (blk_cell h i).trans ((List.getElem?_toArray (xs := encF x)).trans hu)
  | j + 1, hj => simp at hj
set_option maxHeartbeats 4000000 in
set_option maxRecDepth 100000 in
theorem insEndF (w : World) (base : Nat) (v : Value) (l : List FileT) (x : FileT) (vb : Nat) (hR : Kd.R k106 106 w base (fun _ => True) v l) (hvb : w.heap[vb]? = some (.cells #[.string x.f0, .int .i64 x.f1, .string x.f2] 106 (0, 0))) (hbase : base ≤ w.heap.size) (hl : (l.length + 1) * 40 ≤ 140737488355328) :
    Calls Tryd.prog 135 #[v, .int .i64 (l.length : Nat), .slice (some ⟨vb, 0, none⟩) 1 1] w fun e w' => ∃ v', e = .returned v' ∧ Kd.R k106 106 w' base (fun _ => True) v' (l ++ [x]) ∧ ∀ w0, Below base w0 w → Below base w0 w' := by
  obtain ⟨A, c, hv, hc, hC⟩ := Kd.R_reads hR
  subst hv
  have HR := Lib.hid hR
  have HV := Lib.hid (oneF hvb)
  have hcz : (l.length : Int) ≤ (c : Int) := by omega
  have hlz : l.length ≤ 140737488355328 := by omega
  clear hR hvb hC
  by_cases hcl : c = l.length
  all_goals
    have hcl2 : (c == l.length) = decide (c = l.length) := rfl
    clear hcl2
    go_enter Tryd.func135, Tryd.ntmps135
    go_wp2_with ((with_reducible refine gate_builtin (b := .append) (xs := #[.tmp 23, .tmp 24]) rfl ?_); at_builtin; refine Kd.R_append_rows k106 (Rr := fun x cs => cs = encF x) (w0 := w) base rfl (.tmp 23) (.tmp 24) 24 106 (.agg #[.string ⟨#[]⟩, .int .i64 0, .string ⟨#[]⟩]) 40 rfl Tryd.underlying24 info106 rfl (by decide) (by decide) _ l [x] (some ⟨vb, 0, none⟩) 1 1 (fun _ => True) (fun _ => False) rfl rfl HR.out HV.out (fun _ _ hp => flatF.M.2 hp) (fun _ hk => hk.elim) (fun _ _ => trivial) (Below.refl _ _) hbase hl ?_; intro v5 w5 ho5 hb5 hg5 hat5; have O5 := Lib.hid ho5; have B5 := Lib.hid hg5; clear ho5 hb5 hg5 hat5)
    go_ret
    refine ⟨_, rfl, O5.out, fun w0 h => ?_⟩
    exact h.grown B5.out hbase (fun k hk => Kd.R_base HR.out k hk)
theorem blkCF {w : World} {vb j : Nat} {v : Value} {x : FileT} (h : w.heap[vb]? = some (.cells #[.string x.f0, .int .i64 x.f1, .string x.f2] 106 (0, 0))) (hj : (encF x)[j]? = some v) : w.cell? ⟨vb, j, none⟩ = some v :=
  (blk_cell h j).trans ((List.getElem?_toArray (xs := encF x)).trans hj)
theorem own_ins {α : Type} {enc : α → List Value} {k : Nat} {d : Kd α} (F : Flat d enc k) {w : World} {base g c i : Nat} {e : TypeId} {l : List α} {x : α} {row : List Value} (hi : i ≤ l.length) (hb : base ≤ g) (hg : w.heap[g]? = some (.cells row.toArray e (0, 0))) (hc : l.length + 1 ≤ c) (hcm : c ≤ maxLen)
    (hlen : row.length = c * k) (ht : row.take ((l.length + 1) * k) = (flat enc l).take (i * k) ++ enc x ++ (flat enc l).drop (i * k)) : d.R e w base (fun _ => True) (.slice (some ⟨g, 0, none⟩) (l.length + 1) c) (l.take i ++ [x] ++ l.drop i) := by
  have hxl : (l.take i ++ [x] ++ l.drop i).length = l.length + 1 := by
    simp only [List.length_append, List.length_take, List.length_drop, List.length_singleton]
    omega
  refine R_of_flat F ⟨flat_len F.len _, .inr ⟨g, c, row.toArray, by rw [hxl], hb, hg, by rw [hxl]; exact hc, hcm, by rw [List.size_toArray]; exact hlen, ?_⟩⟩
  rw [hxl]
  show row.take ((l.length + 1) * k) = _
  rw [ht, flat_append, flat_append, flat_one, flat_take F.len l i hi, flat_drop F.len l i hi]
theorem rowC {w : World} {g j n : Nat} {e : TypeId} {cur : Array Value} {cs : List Value} {v : Value} (h : w.heap[g]? = some (.cells cur e (0, 0))) (ht : cur.toList.take n = cs) (hj : cs[j]? = some v) : w.cell? ⟨g, j, none⟩ = some v := by
  refine (blk_cell h j).trans ?_
  rw [← ht] at hj
  rw [← Array.getElem?_toList]
  rw [List.getElem?_take] at hj
  split at hj
  · exact hj
  · cases hj
theorem ovF (w : World) (g vb k : Nat) (x : FileT) (cur : Array Value) (hvb : w.heap[vb]? = some (.cells #[.string x.f0, .int .i64 x.f1, .string x.f2] 106 (0, 0))) (hg : w.heap[g]? = some (.cells cur 106 (0, 0))) (hne : vb ≠ g) (hcur : cur.size ≠ 0) (lb cb : Nat) :
    (callFunc 165 #[.slice (some ⟨vb, 0, none⟩) 1 1, .slice (some ⟨g, k, none⟩) lb cb]).run Tryd.prog w = .ok (.value (.bool false)) w := by
  rw [run_callFunc_extern Tryd.func165 (by kernel_rfl) (by kernel_rfl) (by kernel_rfl) (e := Extern.SlicesOverlaps.overlaps #[24, 24] #[4]) (by kernel_rfl),
    Lib.run_overlaps_apart w 24 4 106 Tryd.underlying24 3 Tryd.sizeOf106 ⟨vb, 0, none⟩ ⟨g, k, none⟩ 1 1 lb cb hne 106 106 3 cur.size (by simp [World.shape?, hvb]) (by simp [World.shape?, hg]) hcur (by simp [World.frozen?, hvb]) (by simp [World.frozen?, hvb])]
  rfl
set_option maxHeartbeats 4000000 in
set_option maxRecDepth 100000 in
theorem insMidF (w : World) (base g c i vb : Nat) (l : List FileT) (x : FileT) (cur : Array Value) (hg : w.heap[g]? = some (.cells cur 106 (0, 0))) (hb : base ≤ g) (hc : l.length + 1 ≤ c) (hcm : c ≤ maxLen) (hcs : cur.size = c * 3) (ht : cur.toList.take (l.length * 3) = flat encF l)
    (hi : i < l.length) (hvb : w.heap[vb]? = some (.cells #[.string x.f0, .int .i64 x.f1, .string x.f2] 106 (0, 0))) (hne : vb ≠ g) :
    Calls Tryd.prog 135 #[.slice (some ⟨g, 0, none⟩) l.length c, .int .i64 (i : Nat), .slice (some ⟨vb, 0, none⟩) 1 1] w fun e w' => ∃ v', e = .returned v' ∧ Kd.R k106 106 w' base (fun _ => True) v' (l.take i ++ [x] ++ l.drop i) ∧ ∀ w0, Below base w0 w → Below base w0 w' := by
  have hfl := flat_len flatF.len l
  have hdl : ((flat encF l).drop (i * 3)).length = (l.length - i) * 3 := by rw [List.length_drop, hfl]; omega
  have hi' : i ≤ l.length := by omega
  have hcl : cur.toList.length = c * 3 := by rw [Array.length_toList]; exact hcs
  have hsz : (Tryd.prog.info? 106).map (·.size) = some 3 := by kernel_rfl
  have hov := ovF w g vb ((i + 1) * 3) x cur hvb hg hne (by rw [hcs]; unfold maxLen at hcm; omega)
  obtain ⟨cur1, h1⟩ : ∃ cur1, cur1 = cur.toList.take (i * 3 + 3) ++ (flat encF l).drop (i * 3) ++ cur.toList.drop (i * 3 + 3 + ((flat encF l).drop (i * 3)).length) := ⟨_, rfl⟩
  have h1l : cur1.length = c * 3 := by rw [h1]; simp only [List.length_append, List.length_take, List.length_drop, hcl, hfl]; omega
  have hgd : w.drew.heap[g]? = some (.cells cur 106 (0, 0)) := hg
  have hcp1 : ∀ ty dc sc, (Builtin.copy_ #[24, 24] ty #[.slice (some ⟨g, (i + 1) * 3, none⟩) (l.length + 1 - (i + 1)) dc, .slice (some ⟨g, i * 3, none⟩) (l.length + 1 - i) sc]).run Tryd.prog w.drew = .ok (goInt ((l.length - i : Nat) : Int)) (w.drew.setRow g cur1.toArray) := fun ty dc sc => by
    rw [h1, show i * 3 + 3 = (i + 1) * 3 from (Nat.succ_mul _ _).symm]
    exact run_copy_rowk w.drew _ _ ty 106 g ((i + 1) * 3) (l.length + 1 - (i + 1)) dc ⟨g, i * 3, none⟩ (l.length + 1 - i) sc 3 (l.length - i) cur 106 ((flat encF l).drop (i * 3)) Tryd.underlying24 hsz hgd (by simp only [Nat.min_def]; split <;> omega) hdl
      (fun j v hj => by rw [Addr.add_lit]; rw [List.getElem?_drop] at hj; exact rowC hgd ht hj) (by rw [hdl, hcs]; omega) (fun v hv => flat_one_cell flatF.one l v (List.mem_of_mem_drop hv))
  have hcp2 : ∀ (W : World), W.heap = (w.drew.setRow g cur1.toArray).heap → ∀ ty dc, (Builtin.copy_ #[24, 24] ty #[.slice (some ⟨g, i * 3, none⟩) (l.length + 1 - i) dc, .slice (some ⟨vb, 0, none⟩) 1 1]).run Tryd.prog W = .ok (goInt 1) (W.setRow g (shiftRow cur.toList (flat encF l) (encF x) (i * 3) 3).toArray) := fun W hW ty dc => by
    have hgW : W.heap[g]? = some (.cells cur1.toArray 106 (0, 0)) := by rw [hW]; exact setRow_heap w.drew g cur _ _ _ hgd
    have hvW : W.heap[vb]? = some (.cells #[.string x.f0, .int .i64 x.f1, .string x.f2] 106 (0, 0)) := by rw [hW, setRow_other _ _ _ _ hne]; exact hvb
    have := run_copy_rowk W 24 24 ty 106 g (i * 3) (l.length + 1 - i) dc ⟨vb, 0, none⟩ 1 1 3 1 cur1.toArray 106 (encF x) Tryd.underlying24 hsz hgW (by simp only [Nat.min_def]; split <;> omega) rfl
      (fun j v hj => by rw [add_plain]; exact blkCF hvW hj) (by rw [List.size_toArray, h1l]; show i * 3 + 3 ≤ _; omega) (flatF.one x) (P := Tryd.prog)
    rw [this, h1]
    rfl
  have hw1 : IntKind.i64.wrap ((i : Int) + 1) = (i : Int) + 1 := by rw [IntKind.wrap_i64]; unfold maxLen at hcm; omega
  have hw2 : IntKind.i64.wrap ((l.length : Int) + 1) = (l.length : Int) + 1 := by rw [IntKind.wrap_i64]; unfold maxLen at hcm; omega
  have hb1 : (0 : Int) ≤ (i : Int) + 1 := by omega
  have hin : i ≤ l.length := by omega
  have htn : ((i : Int) + 1).toNat = i + 1 := by omega
  have hb2 : ¬ (c = i + 1) := by omega
  have hb3 : (i : Int) ≤ (l.length : Int) + 1 := by omega
  have hb4 : ¬ (c = i) := by omega
  have hz2 : ¬ ((i : Int) = (l.length : Int)) := by omega
  have hz3 : ¬ ((c : Int) < (l.length : Int) + 1) := by omega
  have hc63 : c ≤ 9223372036854775807 := by unfold maxLen at hcm; omega
  have HT := Lib.hid ht
  have HG := Lib.hid hg
  have HCS := Lib.hid hcs
  have HFL := Lib.hid hfl
  have HHL := Lib.hid hcl
  clear ht hg hcs h1 h1l hdl hfl hgd hcl hvb
  obtain ⟨W1, hW1⟩ : ∃ W1, W1 = w.drew.setRow g cur1.toArray := ⟨_, rfl⟩
  rw [← hW1] at hcp1 hcp2
  go_enter Tryd.func135, Tryd.ntmps135
  go_wp2_with (simp only [hov])
  go_region_law (refine step_copy_runI rfl _ _ 24 24 rfl (.slice (some ⟨g, (i + 1) * 3, none⟩) (l.length + 1 - (i + 1)) (c - (i + 1))) (.slice (some ⟨g, i * 3, none⟩) (l.length + 1 - i) (c - i)) (by simp [Act.eval, Act.put]) (by simp [Act.eval, Act.put]) (hcp1 _ _ _) ?_)
  go_wp2_with (at_builtin; refine wpList_copy_runI _ rfl _ _ 24 24 rfl _ _ rfl rfl (hcp2 _ rfl _ _) ?_)
  go_ret
  refine ⟨_, rfl, ?_, fun w0 h => ?_⟩
  · refine own_ins flatF (g := g) (c := c) (row := shiftRow cur.toList (flat encF l) (encF x) (i * 3) 3) hi' hb ?_ hc hcm ?_ ?_
    · exact setRow_heap (w.drew.setRow g cur1.toArray) g cur1.toArray _ _ _ (setRow_heap w.drew g cur _ _ _ HG.out)
    · rw [shiftRow_len cur.toList (flat encF l) (encF x) (i * 3) 3 (by rw [HFL.out]; omega) rfl (by rw [HFL.out, HHL.out]; omega), HHL.out]
    · have := shiftRow_take cur.toList (flat encF l) (encF x) (i * 3) 3 (by rw [HFL.out]; omega) rfl (by rw [HFL.out, HHL.out]; omega) (by rw [HFL.out]; exact HT.out)
      rw [HFL.out] at this
      rw [Nat.add_mul, Nat.one_mul]
      exact this
  · exact below_setRow (below_setRow (below_drew h) hb _) hb _
set_option maxHeartbeats 4000000 in
set_option maxRecDepth 100000 in
theorem insNewF (w : World) (base g c i vb : Nat) (l : List FileT) (x : FileT) (cur : Array Value) (hbw : base ≤ w.heap.size) (hg : w.heap[g]? = some (.cells cur 106 (0, 0))) (hlc : l.length ≤ c) (hc : c < l.length + 1) (hcs : cur.size = c * 3) (ht : cur.toList.take (l.length * 3) = flat encF l)
    (hi : i < l.length) (hvb : w.heap[vb]? = some (.cells #[.string x.f0, .int .i64 x.f1, .string x.f2] 106 (0, 0))) (hbig : (l.length + 1) * 40 ≤ 140737488355328) :
    Calls Tryd.prog 135 #[.slice (some ⟨g, 0, none⟩) l.length c, .int .i64 (i : Nat), .slice (some ⟨vb, 0, none⟩) 1 1] w fun e w' => ∃ v', e = .returned v' ∧ Kd.R k106 106 w' base (fun _ => True) v' (l.take i ++ [x] ++ l.drop i) ∧ ∀ w0, Below base w0 w → Below base w0 w' := by
  have hfl := flat_len flatF.len l
  have hdl : ((flat encF l).drop (i * 3)).length = (l.length - i) * 3 := by rw [List.length_drop, hfl]; omega
  have hi' : i ≤ l.length := by omega
  have hgw : g < w.heap.size := (Array.getElem?_eq_some_iff.1 hg).1
  have hvw : vb < w.heap.size := (Array.getElem?_eq_some_iff.1 hvb).1
  have hsz : (Tryd.prog.info? 106).map (·.size) = some 3 := by kernel_rfl
  obtain ⟨i0, hi0, hzz⟩ := Option.map_eq_some_iff.1 (info106 : (Tryd.prog.info? 106).map (fun i => (i.zero, i.size, i.bytes)) = some (some (.agg #[.string ⟨#[]⟩, .int .i64 0, .string ⟨#[]⟩]), 3, 40))
  simp only [Prod.mk.injEq] at hzz
  obtain ⟨hz0, hzs, hzb⟩ := hzz
  have htl : ((flat encF l).take (i * 3)).length = i * 3 := by rw [List.length_take, hfl]; omega
  have hold : (Builtin.firstCells i0.size i (.slice (some ⟨g, 0, none⟩) i c)).run Tryd.prog w.drew = .ok ((flat encF l).take (i * 3)).toArray w.drew := by
    rw [hzs]
    exact run_firstCells_some w.drew 3 i ⟨g, 0, none⟩ i c ((flat encF l).take (i * 3)) htl (fun j v hj => by
      rw [add_plain]
      rw [List.getElem?_take] at hj
      split at hj
      · exact rowC (w := w.drew) hg ht hj
      · cases hj)
  have hik : i + (l.length + 1 - i) = l.length + 1 := by omega
  have hkk : (l.length : Int) + 1 - (i : Int) = ((l.length + 1 - i : Nat) : Int) := by omega
  have hrz : ∀ ty, (Builtin.append_ #[24, 3] ty #[.slice (some ⟨g, 0, none⟩) i c, .int .i64 ((l.length : Int) + 1 - (i : Int))]).run Tryd.prog w =
      .ok (.slice (some ⟨w.heap.size, 0, none⟩) (l.length + 1) (grownCap w (l.length + 1) c 106)) (w.drew.alloc (.cells (((flat encF l).take (i * 3)).toArray ++ Builtin.zeroCells (Value.agg #[.string ⟨#[]⟩, .int .i64 0, .string ⟨#[]⟩]).cells (l.length + 1 - i) ++ Builtin.zeroCells (Value.agg #[.string ⟨#[]⟩, .int .i64 0, .string ⟨#[]⟩]).cells (grownCap w (l.length + 1) c 106 - (l.length + 1))) 106)) := fun ty => by
    have h := Lib.run_append_grow_zeros (P := Tryd.prog) w 24 3 ty 106 i0 _ .i64 .i64 Tryd.underlying24 Tryd.underlying3 hi0 hz0 (some ⟨g, 0, none⟩) i c ((flat encF l).take (i * 3)) hold (l.length + 1 - i) (by omega) (by rw [hzs]; decide) (by omega) (by omega) (by rw [hzb]; omega) (by rw [hzb, hik]; exact growslice_fits hc hbig)
    rw [hik] at h
    rw [hkk]
    exact h
  obtain ⟨G, hG⟩ : ∃ G, G = grownCap w (l.length + 1) c 106 := ⟨_, rfl⟩
  obtain ⟨ROW, hROW⟩ : ∃ ROW : Array Value, ROW = ((flat encF l).take (i * 3)).toArray ++ Builtin.zeroCells (Value.agg #[.string ⟨#[]⟩, .int .i64 0, .string ⟨#[]⟩]).cells (l.length + 1 - i) ++ Builtin.zeroCells (Value.agg #[.string ⟨#[]⟩, .int .i64 0, .string ⟨#[]⟩]).cells (G - (l.length + 1)) := ⟨_, rfl⟩
  rw [← hG] at hrz
  rw [← hROW] at hrz
  have hGn : l.length + 1 ≤ G := by rw [hG]; exact grownCap_ge w _ _ _
  have hGm : G ≤ maxLen := by rw [hG]; exact grownCap_le_maxLen w (l.length + 1) c 106 (by unfold maxLen; omega)
  have hRl : ROW.size = G * 3 := by
    rw [hROW]
    simp only [Array.size_append, List.size_toArray, htl, Builtin.zeroCells, Array.size_map, Array.size_range, Value.cells]
    show i * 3 + (l.length + 1 - i) * 3 + (G - (l.length + 1)) * 3 = _
    omega
  have hRt : ROW.toList.take (i * 3) = (flat encF l).take (i * 3) := by
    rw [hROW]
    simp only [Array.toList_append, List.append_assoc]
    show List.take _ ((flat encF l).take (i * 3) ++ _) = _
    exact List.take_left' htl
  obtain ⟨W1, hW1⟩ : ∃ W1, W1 = w.drew.alloc (.cells ROW 106) := ⟨_, rfl⟩
  rw [← hW1] at hrz
  have h1N : W1.heap[w.heap.size]? = some (.cells ROW 106 (0, 0)) := by rw [hW1]; exact blk_new w.drew _
  have h1g : W1.heap[g]? = some (.cells cur 106 (0, 0)) := by rw [hW1]; exact blk_alloc (w := w.drew) hg _
  have h1v : W1.heap[vb]? = some (.cells #[.string x.f0, .int .i64 x.f1, .string x.f2] 106 (0, 0)) := by rw [hW1]; exact blk_alloc (w := w.drew) hvb _
  obtain ⟨cur1, hc1⟩ : ∃ cur1, cur1 = ROW.toList.take (i * 3) ++ encF x ++ ROW.toList.drop (i * 3 + (encF x).length) := ⟨_, rfl⟩
  have hRll : ROW.toList.length = G * 3 := by rw [Array.length_toList]; exact hRl
  have h1l : cur1.length = G * 3 := by
    rw [hc1]
    simp only [List.length_append, List.length_take, List.length_drop, hRll, show (encF x).length = 3 from rfl]
    omega
  have hgne : g ≠ w.heap.size := by omega
  have hcpA : ∀ (W : World), W.heap = W1.heap → ∀ ty dc, (Builtin.copy_ #[24, 24] ty #[.slice (some ⟨w.heap.size, i * 3, none⟩) (l.length + 1 - i) dc, .slice (some ⟨vb, 0, none⟩) 1 1]).run Tryd.prog W = .ok (goInt 1) (W.setRow w.heap.size cur1.toArray) := fun W hW ty dc => by
    have := run_copy_rowk W 24 24 ty 106 w.heap.size (i * 3) (l.length + 1 - i) dc ⟨vb, 0, none⟩ 1 1 3 1 ROW 106 (encF x) Tryd.underlying24 hsz (by rw [hW]; exact h1N) (by simp only [Nat.min_def]; split <;> omega) rfl
      (fun j v hj => by rw [add_plain]; exact blkCF (by rw [hW]; exact h1v) hj) (by rw [hRl]; show i * 3 + 3 ≤ _; omega) (flatF.one x) (P := Tryd.prog)
    rw [this, hc1]
    rfl
  have hcpB : ∀ (W : World), W.heap = (W1.setRow w.heap.size cur1.toArray).heap → ∀ ty dc sc, (Builtin.copy_ #[24, 24] ty #[.slice (some ⟨w.heap.size, (i + 1) * 3, none⟩) (l.length + 1 - (i + 1)) dc, .slice (some ⟨g, i * 3, none⟩) (l.length - i) sc]).run Tryd.prog W = .ok (goInt ((l.length - i : Nat) : Int)) (W.setRow w.heap.size (newRowK ROW.toList (flat encF l) (encF x) (i * 3)).toArray) := fun W hW ty dc sc => by
    have hNW : W.heap[w.heap.size]? = some (.cells cur1.toArray 106 (0, 0)) := by rw [hW]; exact setRow_heap W1 _ ROW _ _ _ h1N
    have hgW : W.heap[g]? = some (.cells cur 106 (0, 0)) := by rw [hW, setRow_other _ _ _ _ hgne]; exact h1g
    have := run_copy_rowk W 24 24 ty 106 w.heap.size ((i + 1) * 3) (l.length + 1 - (i + 1)) dc ⟨g, i * 3, none⟩ (l.length - i) sc 3 (l.length - i) cur1.toArray 106 ((flat encF l).drop (i * 3)) Tryd.underlying24 hsz hNW (by simp only [Nat.min_def]; split <;> omega) hdl
      (fun j v hj => by rw [Addr.add_lit]; rw [List.getElem?_drop] at hj; exact rowC hgW ht hj) (by rw [hdl, List.size_toArray, h1l]; omega) (fun v hv => flat_one_cell flatF.one l v (List.mem_of_mem_drop hv)) (P := Tryd.prog)
    rw [this, hc1, show (i + 1) * 3 = i * 3 + (encF x).length from Nat.succ_mul _ _]
    rfl
  have hw1 : IntKind.i64.wrap ((i : Int) + 1) = (i : Int) + 1 := by rw [IntKind.wrap_i64]; omega
  have hw2 : IntKind.i64.wrap ((l.length : Int) + 1) = (l.length : Int) + 1 := by rw [IntKind.wrap_i64]; omega
  have hw3 : IntKind.i64.wrap ((l.length : Int) + 1 - (i : Int)) = (l.length : Int) + 1 - (i : Int) := by rw [IntKind.wrap_i64]; omega
  have hb1 : (0 : Int) ≤ (i : Int) + 1 := by omega
  have hin : i ≤ l.length := by omega
  have hic : i ≤ c := by omega
  have htn : ((i : Int) + 1).toNat = i + 1 := by omega
  have hG63 : G ≤ 9223372036854775807 := by unfold maxLen at hGm; omega
  have hGi : ¬ (G = i) := by omega
  have hGim : ¬ (G = i + 1) := by omega
  have hGi2 : i ≤ G := by omega
  have hb4 : ¬ (c = i) := by omega
  have hz2 : ¬ ((i : Int) = (l.length : Int)) := by omega
  have hz3 : (c : Int) < (l.length : Int) + 1 := by omega
  have hE : W1.drew.heap = W1.heap := rfl
  have HFL := Lib.hid hfl
  have HRL := Lib.hid hRll
  have HRT := Lib.hid hRt
  have HN1 := Lib.hid h1N
  have HBW := Lib.hid hbw
  have HW1 := Lib.hid hW1
  clear hg hcs ht hvb hdl htl hold hik hkk hi0 hz0 hzs hzb hG hROW hRl hRt hRll h1N h1g h1v hc1 h1l hbw hfl
  go_enter Tryd.func135, Tryd.ntmps135
  go_wp2_with (first
    | (at_builtin; refine Lib.wpList_append_run _ rfl _ _ _ _ rfl _ _ rfl rfl _ _ (hrz _) ?_)
    | (at_builtin; refine wpList_copy_runI _ rfl _ _ 24 24 rfl _ _ rfl rfl (hcpA _ rfl _ _) ?_))
  have hF1 : ((w.alloc (.cells ROW 106)).drew.setRow w.heap.size cur1.toArray).drew.heap = (W1.setRow w.heap.size cur1.toArray).heap := by rw [HW1.out]; rfl
  go_region_law (refine step_copy_runI rfl _ _ 24 24 rfl (.slice (some ⟨w.heap.size, (i + 1) * 3, none⟩) (l.length + 1 - (i + 1)) (G - (i + 1))) (.slice (some ⟨g, i * 3, none⟩) (l.length - i) (c - i)) (by simp [Act.eval, Act.put]) (by simp [Act.eval, Act.put]) (hcpB _ hF1 _ _ _) ?_)
  go_wp2
  go_ret
  refine ⟨_, rfl, ?_, fun w0 h => ?_⟩
  · refine own_ins flatF (g := w.heap.size) (c := G) (row := newRowK ROW.toList (flat encF l) (encF x) (i * 3)) hi' HBW.out ?_ hGn hGm ?_ ?_
    · refine setRow_heap _ w.heap.size cur1.toArray _ _ _ ?_
      rw [hF1]
      exact setRow_heap W1 _ ROW _ _ _ HN1.out
    · rw [newRowK_len ROW.toList (flat encF l) (encF x) (i * 3) (by rw [HFL.out]; omega) (by rw [HFL.out, HRL.out]; show l.length * 3 + 3 ≤ _; omega), HRL.out]
    · have := newRowK_take ROW.toList (flat encF l) (encF x) (i * 3) (by rw [HFL.out]; omega) (by rw [HFL.out, HRL.out]; show l.length * 3 + 3 ≤ _; omega) HRT.out
      rw [HFL.out] at this
      rw [Nat.add_mul, Nat.one_mul]
      exact this
  · exact below_setRow (below_drew (below_setRow (below_drew (h.alloc HBW.out _)) HBW.out _)) HBW.out _
/-- What Insert tells of a row of one's own. -/
theorem insertF (w : World) (base : Nat) (v : Value) (l : List FileT) (x : FileT) (i vb : Nat) (hR : Kd.R k106 106 w base (fun _ => True) v l) (hi : i ≤ l.length) (hvb : w.heap[vb]? = some (.cells #[.string x.f0, .int .i64 x.f1, .string x.f2] 106 (0, 0))) (hne : v.ownBlock ≠ some vb) (hbase : base ≤ w.heap.size) (hl : (l.length + 1) * 40 ≤ 140737488355328) :
    Calls Tryd.prog 135 #[v, .int .i64 (i : Nat), .slice (some ⟨vb, 0, none⟩) 1 1] w fun e w' => ∃ v', e = .returned v' ∧ Kd.R k106 106 w' base (fun _ => True) v' (l.take i ++ [x] ++ l.drop i) ∧ ∀ w0, Below base w0 w → Below base w0 w' := by
  by_cases h : i = l.length
  · subst h
    rw [List.take_length, List.drop_length, List.append_nil]
    exact insEndF w base v l x vb hR hvb hbase hl
  · have hlt : i < l.length := by omega
    obtain ⟨_, ho⟩ := R_flat flatF hR
    rcases ho with ⟨_, h0⟩ | ⟨g, cap, cur, rfl, hb, hg, hlc, hcm, hcs, ht⟩
    · omega
    · by_cases hc : l.length + 1 ≤ cap
      · exact insMidF w base g cap i vb l x cur hg hb hc hcm hcs ht hlt hvb (fun z => hne (by rw [z]; rfl))
      · exact insNewF w base g cap i vb l x cur hbase hg hlc (by omega) hcs ht hlt hvb hl
end Go.Proofs.YtjibadlbiapcmaaDoor.PX.X
