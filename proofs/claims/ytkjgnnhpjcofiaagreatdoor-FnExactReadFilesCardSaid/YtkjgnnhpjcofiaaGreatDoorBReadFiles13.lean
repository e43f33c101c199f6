/- Texts of this claim set one behind another by wip/bundle.py: XOpen. -/
import Derived.Test.YtkjgnnhpjcofiaaGreatDoorBReadFiles9
import Derived.Deep.Slices
import Derived.ChangeSame
import Derived.SizedLaws
namespace Go.Proofs.YtkjgnnhpjcofiaaGreatDoorX
set_option linter.unusedSimpArgs false
set_option linter.unusedVariables false
open Go Go.Proofs.YtkjgnnhpjcofiaaGreatDoorW.PrintWords
def Small {H : Type} (P : Program) (t : TypeId) (d : DataW H) : Prop := ∀ n ∈ d.weights P t, n ≤ 140737488351232
structure Opens (P : Program) (t : TypeId) {α : Type} (d : Kd α) (S : α → Prop) : Prop where
 sz : P.cellsOf t = d.sz
 op : ∀ {H : Type} {enc : TypeId × Value → H} {w : World} {fuel : Nat} {cs : List Value} {x : DataW H × List MemPlace},
  DataW.trod enc P w 0 (fun _ => true) true fuel t cs = some x → Small P t x.1 → ∃ a : α, d.K w a cs ∧ S a
theorem opens_string {P : Program} {t : TypeId} (hu : P.underlying t = some .string) (hc : P.cellsOf t = 1) : Opens P t Kd.string (fun s => s.size ≤ 140737488351232) := by
 refine ⟨hc, fun h hs => ?_⟩
 obtain ⟨s, rfl, rfl, _⟩ := DataW.trod_string hu h
 refine ⟨s, rfl, ?_⟩
 have := hs s.data.toList.length (by simp [DataW.weights])
 simpa using this
theorem opens_int {P : Program} {t : TypeId} {k : IntKind} (hu : P.underlying t = some (.int k)) (hc : P.cellsOf t = 1) : Opens P t (Kd.int k) (fun n => (Lit.int k n).wf = true) := by
 refine ⟨hc, fun h hs => ?_⟩
 obtain ⟨n, rfl, rfl, hw⟩ := DataW.trod_int hu h
 exact ⟨n, rfl, hw⟩
theorem mem_weightsAll {H : Type} {P : Program} {e : TypeId} : ∀ {l : List (DataW H)} {d : DataW H}, d ∈ l → ∀ n ∈ d.weights P e, n ∈ DataW.weightsAll P e l
 | [], _, hd => by simp at hd
 | c :: r, d, hd => by
   intro n hn
   rw [DataW.weightsAll, List.mem_append]
   rcases List.mem_cons.1 hd with rfl | hd
   · exact .inl hn
   · exact .inr (mem_weightsAll hd n hn)
theorem list_of {α : Type} {n : Nat} {p : Nat → α → Prop} (h : ∀ i, i < n → ∃ a, p i a) : ∃ l : List α, l.length = n ∧ ∀ i a, l[i]? = some a → p i a := by
 induction n with
 | zero => exact ⟨[], rfl, fun i a h => by simp at h⟩
 | succ n ih =>
   obtain ⟨l, hl, hp⟩ := ih (fun i hi => h i (by omega))
   obtain ⟨a, ha⟩ := h n (by omega)
   refine ⟨l ++ [a], by simp [hl], fun i b hb => ?_⟩
   rcases Nat.lt_or_ge i l.length with hi | hi
   · rw [List.getElem?_append_left hi] at hb
     exact hp i b hb
   · rw [List.getElem?_append_right hi] at hb
     have hi' : i = n := by
      have := (List.getElem?_eq_some_iff.1 hb).1
      simp at this
      omega
     subst hi'
     rw [hl, Nat.sub_self] at hb
     simp at hb
     subst hb
     exact ha
theorem opens_slice {P : Program} {t e : TypeId} {α : Type} {d : Kd α} {S : α → Prop} (ho : Opens P e d S) (hu : P.underlying t = some (.slice e)) (hc : P.cellsOf t = 1) :
 Opens P t (Kd.slice e d) (fun xs => xs.length * P.bytesOf e ≤ 140737488351232 ∧ ∀ x ∈ xs, S x) := by
 refine ⟨hc, fun {H enc w fuel cs x} h hs => ?_⟩
 rcases Go.Deep.open_slice hu h with ⟨rfl, rfl⟩ | ⟨a, len, cap, m, n, D, Pl, rfl, hb, hl, hm, hmm, rfl, hx⟩
 · exact ⟨[], ⟨none, 0, rfl, Nat.le_refl _, rfl, by simp, fun h => absurd h (by simp)⟩, by simp, fun x hx => by simp at hx⟩
 · simp only [if_true] at hmm
   subst hmm
   have hw : ∀ i, i < len → Small P e (D i) := fun i hi k hk => hs k (by
    rw [DataW.weights]
    simp only [hu]
    refine List.mem_cons_of_mem _ (List.mem_append_left _ (mem_weightsAll (List.mem_map.2 ⟨i, List.mem_range.2 hi, rfl⟩) k hk)))
   obtain ⟨l, hll, hp⟩ := list_of (n := len) (p := fun i b => (∃ cs', cs'.length = d.sz ∧ d.K w b cs' ∧ ∀ j u, cs'[j]? = some u → w.cell? (a.add (i * d.sz + j)) = some u) ∧ S b) (fun i hi => by
    obtain ⟨cs', h1, h2⟩ := hx i (by omega)
    obtain ⟨b, hK, hS⟩ := ho.op h2 (hw i hi)
    obtain ⟨_, h3, h4⟩ := World.cells?_some h1
    refine ⟨b, ⟨cs', by rw [h3, ho.sz], hK, fun j u hj => ?_⟩, hS⟩
    have hjl := (List.getElem?_eq_some_iff.1 hj).1
    have := h4 j (by omega)
    rw [hj, ho.sz] at this
    have e : (a.add (i * d.sz)).add j = a.add (i * d.sz + j) := by
     unfold Addr.add
     by_cases e1 : i * d.sz = 0
     · simp [e1]
     · by_cases e2 : j = 0
       · simp [e2]
       · simp [e1, e2, Nat.add_assoc]
    rw [e] at this
    exact this)
   refine ⟨l, ⟨some a, m, by rw [hll], by omega, rfl, by rw [hll]; unfold maxLen at hm; omega, fun hn => ⟨a, rfl, fun j p hj => (hp j p hj).1⟩⟩, ?_, fun b hb => ?_⟩
   · have := hs ((len + (m - len)) * P.bytesOf e) (by
      rw [DataW.weights]
      simp only [hu]
      refine List.mem_cons.2 (.inl ?_)
      simp)
     rw [hll]
     exact Nat.le_trans (Nat.mul_le_mul_right _ (by omega)) this
   · obtain ⟨i, hi, rfl⟩ := List.mem_iff_getElem.1 hb
     exact (hp i _ (List.getElem?_eq_getElem hi)).2
structure OpensF (P : Program) (o : Nat) (fs : List Go.Field) {α : Type} (d : Kd α) (S : α → Prop) : Prop where
 op : ∀ {H : Type} {enc : TypeId × Value → H} {w : World} {n : Nat} {cs : List Value} {xs : List (DataW H × List MemPlace)}, cs.length = o + d.sz → xs.length = fs.length →
  (∀ (i : Nat) (f : Go.Field), fs[i]? = some f → DataW.trod enc P w 0 (fun _ => true) true n f.type ((cs.drop f.offset).take (P.cellsOf f.type)) = xs[i]?) →
  (∀ k ∈ DataW.weightsEach P (fs.map (·.type)) (xs.map (·.1)), k ≤ 140737488351232) → ∃ a : α, d.K w a (cs.drop o) ∧ S a
theorem opensF_one {P : Program} {o : Nat} {f : Go.Field} {α : Type} {d : Kd α} {S : α → Prop} (h : Opens P f.type d S) (ho : f.offset = o) : OpensF P o [f] d S := by
 refine ⟨fun {H enc w n cs xs} hl hx ht hw => ?_⟩
 match xs, hx with
 | [x], _ =>
   have h0 := ht 0 f rfl
   rw [ho, List.take_of_length_le (by rw [List.length_drop, h.sz]; omega)] at h0
   exact h.op h0 (fun k hk => hw k (by simpa [DataW.weightsEach] using hk))
theorem opensF_cons {P : Program} {o : Nat} {f : Go.Field} {fs : List Go.Field} {α β : Type} {d : Kd α} {g : Kd β} {S : α → Prop} {T : β → Prop} (h : Opens P f.type d S) (ho : f.offset = o) (hr : OpensF P (o + d.sz) fs g T) :
 OpensF P o (f :: fs) (Kd.pair d g) (fun x => S x.1 ∧ T x.2) := by
 refine ⟨fun {H enc w n cs xs} hl hx ht hw => ?_⟩
 match xs, hx with
 | x :: xs, hx =>
   have hl' : cs.length = o + (d.sz + g.sz) := hl
   have h0 := ht 0 f rfl
   rw [ho, h.sz] at h0
   obtain ⟨a, hK, hS⟩ := h.op (show DataW.trod enc P w 0 (fun _ => true) true n f.type ((cs.drop o).take d.sz) = some x from h0) (fun k hk => hw k (by
    simp only [List.map_cons, DataW.weightsEach, List.mem_append]; exact .inl hk))
   obtain ⟨b, hK2, hT⟩ := hr.op (enc := enc) (w := w) (n := n) (cs := cs) (xs := xs) (by omega) (by simpa using hx) (fun i f' hf => ht (i + 1) f' hf) (fun k hk => hw k (by
    simp only [List.map_cons, DataW.weightsEach, List.mem_append]; exact .inr hk))
   refine ⟨(a, b), ⟨_, _, ?_, hK, hK2⟩, hS, hT⟩
   rw [← List.drop_drop, List.take_append_drop]
theorem opens_struct {P : Program} {t : TypeId} {fs : Array Go.Field} {α β : Type} {d : Kd α} {S : α → Prop} (h : OpensF P 0 fs.toList d S) (hu : P.underlying t = some (.struct fs)) (hc : P.cellsOf t = d.sz) (f : β → α) (g : α → β) (hfg : ∀ a, f (g a) = a) :
 Opens P t (Kd.iso d f) (fun b => S (f b)) := by
 refine ⟨hc, fun {H enc w fuel cs x} ht hs => ?_⟩
 obtain ⟨xs, n, _, rfl, hl, hlen, hf⟩ := DataW.trod_struct hu ht
 obtain ⟨a, hK, hS⟩ := h.op (enc := enc) (w := w) (n := n) (cs := cs) (xs := xs) (by rw [hl, hc, Nat.zero_add]) (by simpa using hlen) (fun i f' hi => hf i f' (by simpa using hi)) (fun k hk => hs k (by
  rw [DataW.weights]
  simp only [hu]
  exact hk))
 rw [List.drop_zero] at hK
 exact ⟨g a, by show d.K w (f (g a)) cs; rw [hfg]; exact hK, by show S (f (g a)); rw [hfg]; exact hS⟩
theorem param_slice {P : Program} {t e : TypeId} {α : Type} {d : Kd α} {S : α → Prop} (ho : Opens P t (Kd.slice e d) (fun xs => xs.length * P.bytesOf e ≤ 140737488351232 ∧ ∀ x ∈ xs, S x))
 {H : Type} {enc : TypeId × Value → H} {w : World} {v : Value} {y : DataW H} {p : List MemPlace} (h : DataW.Trod enc P w 0 (fun _ => true) true t v y p) (hv : ∃ a n c, v = .slice a n c) (hs : Small P t y) :
 ∃ (A : Option Addr) (c : Nat) (l : List α), v = .slice A l.length c ∧ l.length ≤ c ∧ d.C w A l.length l ∧ l.length * P.bytesOf e ≤ 140737488351232 ∧ ∀ x ∈ l, S x := by
 obtain ⟨a, n, c, rfl⟩ := hv
 obtain ⟨fuel, hf⟩ := h
 obtain ⟨l, ⟨A, c', hcs, hl, hC⟩, h1, h2⟩ := ho.op hf hs
 refine ⟨A, c', l, ?_, hl, hC, h1, h2⟩
 simpa [Value.cells] using hcs
theorem small_of {H : Type} {P : Program} {ts : List TypeId} {ds : List (DataW H)} (h : (DataW.weightsEach P ts ds).all (· ≤ reachBytes) = true) {j : Nat} {t : TypeId} {d : DataW H} (ht : ts[j]? = some t) (hd : ds[j]? = some d) : Small P t d := fun n hn => by
 have := List.all_eq_true.1 h _ (DataW.weights_mem_each ht hd n hn)
 exact of_decide_eq_true this
end Go.Proofs.YtkjgnnhpjcofiaaGreatDoorX
