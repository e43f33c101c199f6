/- Texts of this claim set one behind another by wip/bundle.py: XQApp. -/
import Derived.Test.YtpnoghcdfbmpoaaGreatDoorBLT15
import Derived.Lib.Hide
namespace Go.Proofs.YtpnoghcdfbmpoaaGreatDoor.PX.X
open Go Go.RowKit Go.Lib Go.Proofs.YtpnoghcdfbmpoaaGreatDoorW.PrintWords Go.Proofs.YtpnoghcdfbmpoaaGreatDoor.PX
set_option linter.unusedVariables false
set_option linter.unusedSimpArgs false
section
variable {P : Program} {ops : Array Oper} {rest : List Oper} {o : Oper} {a : Act} {Q' : Exit → Act → World → Prop}
theorem reps_str {w : World} {base : Nat} {ok : Nat → Prop} : ∀ (xs : List ByteArray) (cs : List Value), Reps (Kd.string.M w base ok) Kd.string.sz xs cs → cs = xs.map Value.string := by
 intro xs cs h
 have hl : cs.length = xs.length := by rw [h.1]; exact Nat.mul_one _
 apply List.ext_getElem? 
 intro i
 rcases Nat.lt_or_ge i xs.length with hi | hi
 · have := h.2 i _ (List.getElem?_eq_getElem hi)
   have e : (cs.drop (i * 1)).take 1 = [Value.string xs[i]] := this
   rw [Nat.mul_one] at e
   have e2 := congrArg (fun l : List Value => l[0]?) e
   simp only [List.getElem?_take, List.getElem?_drop, Nat.zero_lt_one, if_true, Nat.add_zero, List.getElem?_cons_zero] at e2
   rw [e2, List.getElem?_map, List.getElem?_eq_getElem hi]
   rfl
 · rw [List.getElem?_eq_none zq7, List.getElem?_eq_none (by rw [List.length_map]; omega)]
theorem str_reps {w : World} {base : Nat} {ok : Nat → Prop} (xs : List ByteArray) : Reps (Kd.string.M w base ok) Kd.string.sz xs (xs.map Value.string) := by
 refine ⟨by rw [List.length_map]; exact (Nat.mul_one _).symm, fun i x hx => ?_⟩
 have hi := (List.getElem?_eq_some_iff.1 hx).1
 show ((xs.map Value.string).drop (i * 1)).take 1 = [Value.string x]
 rw [Nat.mul_one, List.drop_eq_getElem_cons (by rw [List.length_map]; exact hi), List.take_succ_cons, List.take_zero, List.getElem_map]
 congr 2
 exact (List.getElem?_eq_some_iff.1 hx).2
theorem Q_append_rows (base : Nat) {w0 W : World} (hgd : o.guard = none) (s x : Operand) (t e : TypeId) (z : Value) (bytes : Nat)
 (ho : o.op = .call { callee := .builtin .append, args := #[s, x], argTypes := #[t, t] })
 (ht : P.underlying t = some (.slice e)) (hinfo : (P.info? e).map (fun i => (i.zero, i.size, i.bytes)) = some (some z, 1, bytes)) (hz : z.cells.size = 1) (hb0 : 0 < bytes)
 (v : Value) (xs ys : List ByteArray) (A : Option Addr) (c : Nat) (hs : a.eval s = v) (hx : a.eval x = .slice A ys.length c)
 (HO : Kd.string.Q e W base (fun _ => True) v xs) (HR : Kd.string.C W A ys.length ys)
 (HB : Below base w0 W) (hbase : base ≤ W.heap.size) (hl : (xs.length + ys.length) * bytes ≤ 140737488355328)
 (h : ∀ v1 w1, Kd.string.Q e w1 base (fun _ => True) v1 (xs ++ ys) → Below base w0 w1 → W.grownBy w1 v.ownBlock → (v1.ownBlock = v.ownBlock ∨ ∃ b, v1.ownBlock = some b ∧ W.heap.size ≤ b) → wpList P ops Q' rest (a.put o.dst v1) w1) :
 wpList P ops Q' (o :: rest) a W := by
 obtain ⟨i0, hi, hzz⟩ := Option.map_eq_some_iff.1 hinfo
 simp only [Prod.mk.injEq] at hzz
 obtain ⟨hz0, hz1, hz2⟩ := hzz
 have hlen : xs.length + ys.length ≤ 140737488355328 := Nat.le_trans (Nat.le_mul_of_pos_right _ hb0) hl
 obtain ⟨hok, inner, hown, hr⟩ := HO
 have hin := reps_str xs inner hr
 subst hin
 have hrun : ∃ v1 w1, (Builtin.append_ #[t, t] o.type #[v, .slice A ys.length c]).run P W = .ok v1 w1 ∧ Kd.string.Q e w1 base (fun _ => True) v1 (xs ++ ys) ∧ W.grownBy w1 v.ownBlock ∧ (v1.ownBlock = v.ownBlock ∨ ∃ b, v1.ownBlock = some b ∧ W.heap.size ≤ b) := by
  rcases Nat.eq_zero_or_pos ys.length with h0 | h0
  · obtain rfl : ys = [] := List.eq_nil_of_length_eq_zero h0
    refine ⟨v, W, ?_, by rw [List.append_nil]; exact ⟨hok, _, hown, str_reps xs⟩, World.grownBy.refl W _, .inl rfl⟩
    rcases hown.2 with ⟨hn, A', rfl, _⟩ | ⟨g, off, cap, cur, rfl, _, _, hnc, _⟩
    · cases A <;> cases A' <;> simp [Builtin.append_, run_underlying ht, sizeOf, typeInfo, hi, Builtin.lenOf, Builtin.firstCells, storeCells, loadCells, loadCellsFrom]
    · cases A <;> simp [Builtin.append_, run_underlying ht, sizeOf, typeInfo, hi, Builtin.lenOf, Builtin.firstCells, hnc, storeCells, loadCells, loadCellsFrom]
  · obtain ⟨ad, hA, _⟩ := HR.2.2 h0
    subst hA
    have hcells : ∀ j u, (ys.map Value.string)[j]? = some u → W.cell? (ad.add j) = some u := by
     intro j u hj
     have hjl : j < ys.length := by have := (List.getElem?_eq_some_iff.1 hj).1; rwa [List.length_map] at this
     obtain ⟨ad2, e2, hh⟩ := HR.2.2 h0
     obtain rfl : ad = ad2 := Option.some.inj e2
     obtain ⟨cs, _, hK, hc⟩ := hh j _ (List.getElem?_eq_getElem hjl)
     have hcs : cs = [Value.string ys[j]] := hK
     have := hc 0 (Value.string ys[j]) (by rw [hcs]; rfl)
     rw [show (Kd.string).sz = 1 from rfl, Nat.mul_one] at this
     rw [List.getElem?_map, List.getElem?_eq_getElem hjl] at hj
     rw [← Option.some.inj hj]
     simpa [add_plain] using this
    obtain ⟨v1, w1, hrun, h2, hg, hat⟩ := q_append (P := P) W base t o.type e i0 z 1 bytes ht hi hz0 hz1 hz2 hz Nat.one_pos v xs.length _ hown ad ys.length c (ys.map Value.string) (by rw [List.length_map, Nat.mul_one]) hcells (by intro u hu; obtain ⟨q, _, rfl⟩ := List.mem_map.1 hu; rfl) h0 (by simp only [maxLen]; omega) hl hbase
    refine ⟨v1, w1, hrun, ⟨fun _ _ => trivial, (xs ++ ys).map Value.string, ?_, ?_⟩, hg, hat⟩
    · rw [List.length_append, List.map_append]
      exact h2
    · exact str_reps _
 obtain ⟨v1, w1, hr1, h1, h3, h4⟩ := hrun
 refine wpList_plain hgd fun K hK => ?_
 unfold Oper.wp execOp
 simp only [ho, resolve, invoke, builtin, Sem.run_bind, Sem.run_pure, Result.andThen_ok, List.map_toArray, List.map_cons, List.map_nil, hs, hx, hr1]
 exact hK _ _ (h v1 w1 h1 (HB.grown h3 hbase (fun k hk => (q_typed hown k hk).1)) h3 h4)
end
end Go.Proofs.YtpnoghcdfbmpoaaGreatDoor.PX.X
