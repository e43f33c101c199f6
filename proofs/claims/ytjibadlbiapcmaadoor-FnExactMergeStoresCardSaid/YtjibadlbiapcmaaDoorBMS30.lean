/- Texts of this claim set one behind another by wip/bundle.py: XStore, XStorePut, XPutObj, XLawMergeStores. -/
import Derived.Test.YtjibadlbiapcmaaDoorBMS14
import Derived.Test.YtjibadlbiapcmaaDoorBMS17
import Derived.Test.YtjibadlbiapcmaaDoorBMS23
import Derived.Test.YtjibadlbiapcmaaDoorBMS15
import Derived.Test.YtjibadlbiapcmaaDoorBMS27
import Derived.Test.YtjibadlbiapcmaaDoorBMS28
import Derived.Test.YtjibadlbiapcmaaDoorBMS16
import Derived.Test.YtjibadlbiapcmaaDoorBMS29
namespace Go.Proofs.YtjibadlbiapcmaaDoorX
open Go Go.RowKit Go.Proofs.YtjibadlbiapcmaaDoorW.PrintWords Go.Proofs.YtjibadlbiapcmaaDoor.PX
open Go.Proofs.YtjibadlbiapcmaaDoor.PX.X (lessB lessB_irrefl lessB_trans lessB_eq bsAt bsHit hexD hexF hexL hexF_small hexF_big zeros0 letter idB putO cmpO)
set_option linter.unusedVariables false
/-! ### the name of data -/
theorem hex_four (h : Nat) (hh : h < 65536) : zeros0 (4 - (hexL h).length) ++ hexL h = [hexD (h / 4096 % 16), hexD (h / 256 % 16), hexD (h / 16 % 16), hexD (h % 16)] := by
  unfold hexL
  by_cases h1 : h < 16
  · rw [hexF_small 3 h h1, show h / 4096 % 16 = 0 by omega, show h / 256 % 16 = 0 by omega, show h / 16 % 16 = 0 by omega, show h % 16 = h by omega]
    rfl
  · rw [hexF_big 2 h h1]
    by_cases h2 : h / 16 < 16
    · rw [hexF_small 2 _ h2, show h / 4096 % 16 = 0 by omega, show h / 256 % 16 = 0 by omega, show h / 16 % 16 = h / 16 by omega]
      rfl
    · rw [hexF_big 1 _ h2]
      by_cases h3 : h / 16 / 16 < 16
      · rw [hexF_small 1 _ h3, show h / 4096 % 16 = 0 by omega, show h / 256 % 16 = h / 16 / 16 by omega]
        rfl
      · rw [hexF_big 0 _ h3, hexF_small 0 _ (by omega), show h / 4096 % 16 = h / 16 / 16 / 16 by omega, show h / 256 % 16 = h / 16 / 16 % 16 by omega]
        rfl
def idV (kind : Int) (data : ByteArray) : ByteArray := idB kind.toNat (digV data).toNat
theorem dig_cut (d : Nat) (hd : d < 16) : (⟨#[48, 49, 50, 51, 52, 53, 54, 55, 56, 57, 97, 98, 99, 100, 101, 102]⟩ : ByteArray).extract d (d + 1) = ⟨#[hexD d]⟩ := by
  match d, hd with
  | 0, _ => decide +kernel
  | 1, _ => decide +kernel
  | 2, _ => decide +kernel
  | 3, _ => decide +kernel
  | 4, _ => decide +kernel
  | 5, _ => decide +kernel
  | 6, _ => decide +kernel
  | 7, _ => decide +kernel
  | 8, _ => decide +kernel
  | 9, _ => decide +kernel
  | 10, _ => decide +kernel
  | 11, _ => decide +kernel
  | 12, _ => decide +kernel
  | 13, _ => decide +kernel
  | 14, _ => decide +kernel
  | 15, _ => decide +kernel
  | n + 16, h => omega
theorem mk_cat (c : UInt8) (l : List UInt8) : (⟨#[c]⟩ : ByteArray) ++ (⟨l.toArray⟩ : ByteArray) = ⟨(c :: l).toArray⟩ := by
  apply ByteArray.ext
  simp
theorem mk_size (l : List UInt8) : (⟨l.toArray⟩ : ByteArray).size = l.length := by
  show l.toArray.size = _
  rw [List.size_toArray]
theorem idLoop (kind : Int) (k h i : Nat) (out : List UInt8) (hh : h < 65536) (hi : i < 4) (ho : out.length ≤ 4) : spec_l5Id.l0 (k + 1) kind (h : Int) ⟨out.toArray⟩ (i : Int) = spec_l5Id.l0 k kind ((h / 16 : Nat) : Int) ⟨(hexD (h % 16) :: out).toArray⟩ ((i + 1 : Nat) : Int) := by
  have e1 : Int.tmod (h : Int) 16 = ((h % 16 : Nat) : Int) := rfl
  have e2 : Int.tdiv (h : Int) 16 = ((h / 16 : Nat) : Int) := rfl
  have w1 : wrap64 (((h % 16 : Nat) : Int) + 1) = ((h % 16 + 1 : Nat) : Int) := (wrap_in (by omega) (by omega)).trans (by omega)
  have w2 : wrap64 ((h / 16 : Nat) : Int) = ((h / 16 : Nat) : Int) := wrap_in (by omega) (by omega)
  have w3 : wrap64 ((i : Int) + 1) = ((i + 1 : Nat) : Int) := (wrap_in (by omega) (by omega)).trans (by omega)
  have d0 := dig_cut (h % 16) (by omega)
  rw [spec_l5Id.l0, if_pos (by omega)]
  simp only [e1, e2, w1, w2, w3, Int.toNat_natCast]
  rw [if_pos (by omega), if_pos (by omega), if_pos (by omega), d0, mk_cat, mk_size, if_pos (by show 1 + out.length ≤ _; omega)]
theorem letter_cut (kind : Nat) (h1 : 1 ≤ kind) (h3 : kind ≤ 3) : spec_l5Letter.f (kind : Int) = some ⟨#[letter kind]⟩ := by
  obtain rfl | rfl | rfl : kind = 1 ∨ kind = 2 ∨ kind = 3 := by omega
  all_goals decide +kernel
theorem spec_id (kind : Nat) (h1 : 1 ≤ kind) (h3 : kind ≤ 3) (data : ByteArray) (hb : data.size ≤ 140737488355328) (k : Nat) (hk : data.size + 10 < k) : spec_l5Id.f k (kind : Int) data = some (idV kind data) := by
  obtain ⟨u, hu, hv⟩ := digV_nat data
  obtain ⟨k, rfl⟩ : ∃ m, k = m + 5 := ⟨k - 5, by omega⟩
  unfold spec_l5Id.f idV
  rw [spec_digest data hb (k + 5) (by omega), Option.bind_some, hv, Int.toNat_natCast, Int.toNat_natCast]
  have l0 := idLoop kind (k + 4) u 0 [] (by omega) (by decide) (by simp)
  have l1 := idLoop kind (k + 3) (u / 16) 1 [hexD (u % 16)] (by omega) (by decide) (by simp)
  have l2 := idLoop kind (k + 2) (u / 16 / 16) 2 [hexD (u / 16 % 16), hexD (u % 16)] (by omega) (by decide) (by simp)
  have l3 := idLoop kind (k + 1) (u / 16 / 16 / 16) 3 [hexD (u / 16 / 16 % 16), hexD (u / 16 % 16), hexD (u % 16)] (by omega) (by decide) (by simp)
  refine (l0.trans (l1.trans (l2.trans l3))).trans ?_
  rw [spec_l5Id.l0, if_neg (by decide), letter_cut kind h1 h3, Option.bind_some, if_pos (by rw [mk_size]; show 1 + 4 ≤ _; omega), mk_cat]
  congr 1
  unfold idB
  rw [hex_four u (by omega), show u / 4096 = u / 16 / 16 / 16 by omega, show u / 256 = u / 16 / 16 by omega]
theorem impl_id (kind : Nat) (h1 : 1 ≤ kind) (h3 : kind ≤ 3) (data : ByteArray) (hb : data.size ≤ 140737488355328) (k : Nat) (hk : data.size < k) : impl_idOf.f k (kind : Int) data = some (idV kind data) := by
  obtain ⟨u, hu, hv⟩ := digV_nat data
  unfold impl_idOf.f idV
  rw [impl_digest data hb k hk, Option.bind_some, if_pos (by omega), if_pos (by omega), hv, if_pos (by omega), if_pos (by omega)]
/-! ### StoreFault -/
def kindOk (kind : Int) : Bool := decide (1 ≤ kind ∧ kind ≤ 3)
def codeV (kind : Int) (data : ByteArray) : Int := if kindOk kind = true then textV data else 3
theorem spec_kind (kind : Int) : spec_l5Kind.f kind = some (kindOk kind) := by
  unfold spec_l5Kind.f spec_l1In.f kindOk
  by_cases h : kind ≥ 1
  · rw [if_pos h]
    simp only [Option.bind_some]
    congr 1
    apply decide_eq_decide.mpr
    omega
  · rw [if_neg h]
    simp only [Option.bind_some]
    congr 1
    exact (decide_eq_false (by omega)).symm
theorem impl_kind (kind : Int) : impl_isKind.f kind = some (kindOk kind) := by
  unfold impl_isKind.f impl_within.f kindOk
  by_cases h : kind ≥ 1
  · rw [if_pos h]
    simp only [Option.bind_some]
    congr 1
    apply decide_eq_decide.mpr
    omega
  · rw [if_neg h]
    simp only [Option.bind_some]
    congr 1
    exact (decide_eq_false (by omega)).symm
theorem impl_code (kind : Int) (data : ByteArray) (k : Nat) (hk : 3 ≤ k) : impl_dataCode.f k kind data = some (codeV kind data) := by
  unfold impl_dataCode.f codeV impl_codeIf.f
  rw [impl_kind, Option.bind_some, impl_text]
  cases hb : kindOk kind with
  | true =>
    simp only [Bool.not_true, Bool.false_eq_true, if_false, Option.bind_some, if_true]
    rw [show impl_firstCode.f k ([0, textV data] : List Int) = _ from firstCode_two _ _ k hk, if_pos rfl, Option.bind_some]
  | false =>
    simp only [Bool.not_false, if_true, Option.bind_some, Bool.false_eq_true, if_false]
    rw [show impl_firstCode.f k ([3, textV data] : List Int) = _ from firstCode_two _ _ k hk, if_neg (by decide), Option.bind_some]
theorem kind_nat {kind : Int} (h : kindOk kind = true) : ∃ n : Nat, kind = (n : Int) ∧ 1 ≤ n ∧ n ≤ 3 := by
  have := of_decide_eq_true h
  exact ⟨kind.toNat, by omega, by omega, by omega⟩
theorem spec_idOf (kind : Int) (data : ByteArray) (hb : data.size ≤ 1048576) (k : Nat) (hk : 1048590 < k) : spec_IdOf.f k kind data = some (codeV kind data, if codeV kind data = 0 then idV kind data else ⟨#[]⟩) := by
  unfold spec_IdOf.f codeV
  rw [spec_kind, Option.bind_some]
  cases hk2 : kindOk kind with
  | true =>
    obtain ⟨n, rfl, h1, h3⟩ := kind_nat hk2
    rw [if_pos rfl, if_pos rfl, spec_text data k (by omega), Option.bind_some]
    by_cases ht : textV data = 0
    · rw [if_pos ht, if_pos ht, spec_id n h1 h3 data (by omega) k (by omega), Option.bind_some, ht]
    · rw [if_neg ht, if_neg ht]
  | false =>
    rw [if_neg (by decide), if_neg (by decide), if_neg (by decide)]
abbrev oAt (l : List IObj) (i : Nat) : IObj := l.getD i z96
def oSmall (l : List IObj) : Prop := ∀ x ∈ l, x.f2.size ≤ 1048576
theorem oSmall_at {l : List IObj} (h : oSmall l) {i : Nat} (hi : i < l.length) : (oAt l i).f2.size ≤ 1048576 := h _ (getD_mem _ hi)
def storeStep (l : List IObj) (i : Nat) (_ : Unit) : Sum Int Unit :=
  if codeV (oAt l i).f1 (oAt l i).f2 = 0 then
    (if idV (oAt l i).f1 (oAt l i).f2 = (oAt l i).f0 then (if 0 < i ∧ ¬ lessB (oAt l (i - 1)).f0 (oAt l i).f0 = true then .inl 1 else .inr ()) else .inl 1)
  else .inl (codeV (oAt l i).f1 (oAt l i).f2)
/-- What StoreFault tells. -/
def storeV (l : List IObj) : Int := if l.length > 200 then 2 else run (storeStep l) (fun _ => 0) l.length 0 ()
theorem rdO (l : List IObj) (i : Nat) : rd_T96 l (i : Int) = oAt l i := by
  show l.getD ((i : Int)).toNat _ = _
  rw [Int.toNat_natCast]
theorem prevO (i : Nat) (h : 0 < i) : wrap64 ((i : Int) - 1) = ((i - 1 : Nat) : Int) ∨ ¬ i < 9223372036854775807 := by
  by_cases c : i < 9223372036854775807
  · exact .inl ((wrap_in (by omega) (by omega)).trans (by omega))
  · exact .inr c
theorem spec_store (l : List IObj) (hs : oSmall l) (k : Nat) (hk : 1049000 < k) : spec_StoreFault.f k l = some (storeV l) := by
  unfold spec_StoreFault.f storeV
  by_cases hn : l.length > 200
  · rw [if_pos (by omega), if_pos hn]
  rw [if_neg (by omega), if_neg hn]
  refine loop0 (F := fun k i (_ : Unit) => spec_StoreFault.l0 k l (i : Int)) l.length 1048600 (fun _ _ => True) (fun _ _ _ _ _ _ => trivial) (fun k i _ hK hi _ => ?_) (fun k _ _ _ => ?_) () trivial k (by omega)
  · have w3 : wrap64 ((i : Int) + 1) = ((i + 1 : Nat) : Int) := (wrap_in (by omega) (by omega)).trans (by omega)
    simp only [spec_StoreFault.l0]
    rw [if_pos (by omega), if_pos (by omega), rdO, spec_idOf _ _ (oSmall_at hs hi) k (by omega), Option.bind_some, w3]
    unfold storeStep
    by_cases hc : codeV (oAt l i).f1 (oAt l i).f2 = 0
    · rw [if_pos hc]
      simp only [hc, if_true]
      by_cases hid : idV (oAt l i).f1 (oAt l i).f2 = (oAt l i).f0
      · rw [if_pos hid, if_pos (by rw [hid])]
        by_cases h0 : 0 < i
        · have w1 : wrap64 ((i : Int) - 1) = ((i - 1 : Nat) : Int) := (wrap_in (by omega) (by omega)).trans (by omega)
          rw [if_pos (by omega), w1, if_pos (by omega), if_pos (by omega), rdO, toList_eq, toList_eq]
          by_cases hl : lessB (oAt l (i - 1)).f0 (oAt l i).f0 = true
          · rw [if_pos (show Op.bytesLess _ _ = true from hl), if_neg (fun z => z.2 hl)]
          · rw [if_neg (show ¬ Op.bytesLess _ _ = true from hl), if_pos ⟨h0, hl⟩]
        · rw [if_neg (by omega), if_neg (fun z => h0 z.1)]
      · rw [if_neg hid, if_neg (fun z => hid (toList_inj z))]
    · rw [if_neg hc]
      simp only [hc, if_false]
  · simp only [spec_StoreFault.l0]
    rw [if_neg (by omega)]
theorem impl_store (l : List IObj) (hs : oSmall l) (k : Nat) (hk : 1049000 < k) : impl_StoreFault.f k l = some (storeV l) := by
  unfold impl_StoreFault.f storeV
  by_cases hn : l.length > 200
  · rw [if_pos (by omega), if_pos hn]
  rw [if_neg (by omega), if_neg hn]
  refine loop0 (F := fun k i (_ : Unit) => impl_StoreFault.l0 k l l (l.length : Int) (i : Int)) l.length 1048600 (fun _ _ => True) (fun _ _ _ _ _ _ => trivial) (fun k i _ hK hi _ => ?_) (fun k _ _ _ => ?_) () trivial k (by omega)
  · have w3 : wrap64 ((i : Int) + 1) = ((i + 1 : Nat) : Int) := (wrap_in (by omega) (by omega)).trans (by omega)
    simp only [impl_StoreFault.l0]
    rw [if_pos (by omega), if_pos (by omega), if_pos (by omega), rdO, impl_code _ _ k (by omega), Option.bind_some, w3]
    unfold storeStep
    by_cases hc : codeV (oAt l i).f1 (oAt l i).f2 = 0
    · rw [if_pos hc, if_pos hc]
      have hko : kindOk (oAt l i).f1 = true := by
        cases hb : kindOk (oAt l i).f1 with
        | true => rfl
        | false =>
          unfold codeV at hc
          rw [hb, if_neg (by decide)] at hc
          exact absurd hc (by decide)
      obtain ⟨n, hn2, h1, h3⟩ := kind_nat hko
      have hiv : impl_idOf.f k (oAt l i).f1 (oAt l i).f2 = some (idV (oAt l i).f1 (oAt l i).f2) := by
        rw [hn2]
        exact impl_id n h1 h3 _ (by have := oSmall_at hs hi; omega) k (by have := oSmall_at hs hi; omega)
      rw [hiv, Option.bind_some]
      by_cases hid : idV (oAt l i).f1 (oAt l i).f2 = (oAt l i).f0
      · rw [if_pos hid, if_pos (by rw [hid])]
        by_cases h0 : 0 < i
        · have w1 : wrap64 ((i : Int) - 1) = ((i - 1 : Nat) : Int) := (wrap_in (by omega) (by omega)).trans (by omega)
          rw [if_pos (by omega), w1, if_pos (by omega), if_pos (by omega), rdO, toList_eq, toList_eq]
          by_cases hl : lessB (oAt l (i - 1)).f0 (oAt l i).f0 = true
          · rw [if_pos (show Op.bytesLess _ _ = true from hl), if_neg (fun z => z.2 hl)]
          · rw [if_neg (show ¬ Op.bytesLess _ _ = true from hl), if_pos ⟨h0, hl⟩]
        · rw [if_neg (by omega), if_neg (fun z => h0 z.1)]
      · rw [if_neg hid, if_neg (fun z => hid (toList_inj z).symm)]
    · rw [if_neg hc, if_neg hc]
  · simp only [impl_StoreFault.l0]
    rw [if_neg (by omega)]
open Go.Proofs.YtjibadlbiapcmaaDoor.PX.X (lessB lessB_irrefl lessB_trans lessB_eq bsAt bsHit putO cmpO)
set_option linter.unusedVariables false
abbrev oId (x : IObj) : ByteArray := x.f0
theorem lessB_total {a b : ByteArray} (h : ¬ lessB a b = true) (hn : a ≠ b) : lessB b a = true := by
  rw [lessB_eq, decide_eq_true_eq] at h ⊢
  refine Std.lt_of_le_of_ne (List.not_lt.1 h) (fun z => hn ?_)
  cases a; cases b
  congr 1
  exact (Array.ext' z.symm)
theorem storeStep_ok {l : List IObj} {i : Nat} {r : Int} (h : storeStep l i () = .inl r) : r ≠ 0 := by
  unfold storeStep at h
  by_cases hc : codeV (oAt l i).f1 (oAt l i).f2 = 0
  · rw [if_pos hc] at h
    by_cases hid : idV (oAt l i).f1 (oAt l i).f2 = (oAt l i).f0
    · rw [if_pos hid] at h
      split at h
      · rw [← Sum.inl.inj h]; decide
      · cases h
    · rw [if_neg hid] at h
      rw [← Sum.inl.inj h]; decide
  · rw [if_neg hc] at h
    rw [← Sum.inl.inj h]
    exact hc
theorem storeRun_ok (l : List IObj) : ∀ (d i : Nat), run (storeStep l) (fun _ => (0 : Int)) d i () = 0 → ∀ j, i ≤ j → j < i + d → storeStep l j () = .inr ()
  | 0, i, _, j, h1, h2 => absurd h2 (by omega)
  | d + 1, i, h, j, h1, h2 => by
    cases hs : storeStep l i () with
    | inl r =>
      rw [run_out hs] at h
      exact absurd h (storeStep_ok hs)
    | inr u =>
      rw [run_on hs] at h
      rcases Nat.lt_or_ge i j with h3 | h3
      · exact storeRun_ok l d (i + 1) h j (by omega) (by omega)
      · have : j = i := by omega
        subst this
        exact hs
theorem storeStep_in {l : List IObj} {i : Nat} (h : storeStep l i () = .inr ()) : codeV (oAt l i).f1 (oAt l i).f2 = 0 ∧ idV (oAt l i).f1 (oAt l i).f2 = (oAt l i).f0 ∧ (0 < i → lessB (oAt l (i - 1)).f0 (oAt l i).f0 = true) := by
  unfold storeStep at h
  by_cases hc : codeV (oAt l i).f1 (oAt l i).f2 = 0
  · rw [if_pos hc] at h
    by_cases hid : idV (oAt l i).f1 (oAt l i).f2 = (oAt l i).f0
    · rw [if_pos hid] at h
      refine ⟨hc, hid, fun h0 => ?_⟩
      by_cases hl : lessB (oAt l (i - 1)).f0 (oAt l i).f0 = true
      · exact hl
      · rw [if_pos ⟨h0, hl⟩] at h
        cases h
    · rw [if_neg hid] at h
      cases h
  · rw [if_neg hc] at h
    cases h
theorem rising_of_next {l : List IObj} (h : ∀ i, 0 < i → i < l.length → lessB (oAt l (i - 1)).f0 (oAt l i).f0 = true) : rising oId l := by
  have key : ∀ (d i : Nat), i + d + 1 < l.length → lessB (oAt l i).f0 (oAt l (i + d + 1)).f0 = true := by
    intro d
    induction d with
    | zero => intro i hi; exact h (i + 1) (by omega) hi
    | succ d ih => intro i hi; exact lessB_trans (ih i (by omega)) (h (i + (d + 1) + 1) (by omega) hi)
  intro i j x y hij hx hy
  have hj := (List.getElem?_eq_some_iff.1 hy).1
  have e1 : oAt l i = x := by unfold oAt; rw [List.getD_eq_getElem?_getD, hx]; rfl
  have e2 : oAt l j = y := by unfold oAt; rw [List.getD_eq_getElem?_getD, hy]; rfl
  have := key (j - i - 1) i (by omega)
  rw [show i + (j - i - 1) + 1 = j by omega, e1, e2] at this
  exact this
theorem storeV_ok {l : List IObj} (h : storeV l = 0) : l.length ≤ 200 ∧ (∀ i, i < l.length → codeV (oAt l i).f1 (oAt l i).f2 = 0 ∧ idV (oAt l i).f1 (oAt l i).f2 = (oAt l i).f0) ∧ rising oId l := by
  unfold storeV at h
  by_cases hn : l.length > 200
  · rw [if_pos hn] at h
    exact absurd h (by decide)
  rw [if_neg hn] at h
  have hall := storeRun_ok l l.length 0 h
  refine ⟨by omega, fun i hi => ?_, rising_of_next fun i h0 hi => (storeStep_in (hall i (Nat.zero_le _) (by omega))).2.2 h0⟩
  have := storeStep_in (hall i (Nat.zero_le _) (by omega))
  exact ⟨this.1, this.2.1⟩
theorem code_kind {kind : Int} {data : ByteArray} (h : codeV kind data = 0) : kindOk kind = true := by
  unfold codeV at h
  cases hb : kindOk kind with
  | true => rfl
  | false =>
    rw [hb, if_neg (by decide)] at h
    exact absurd h (by decide)
/-! ### put -/
def putV (l : List IObj) (kind : Int) (data : ByteArray) : Int × ByteArray × List IObj := putO l kind data (idV kind data)
theorem impl_putV (l : List IObj) (kind : Int) (data : ByteArray) (hko : kindOk kind = true) (hl : l.length ≤ 1048576) (hb : data.size ≤ 1048576) (k : Nat) (hk : 1048590 < k) : impl_put.f k l kind data = some (putV l kind data) := by
  obtain ⟨n, rfl, h1, h3⟩ := kind_nat hko
  unfold impl_put.f
  rw [impl_id n h1 h3 data (by omega) k (by omega), Option.bind_some, if_pos hl]
  rfl
theorem spec_find_from (l : List IObj) (s : ByteArray) (hr : rising oId l) (hl : l.length ≤ 1048576) : ∀ (d i : Nat), i + d = l.length → i ≤ cnt (lessK oId s) l → ∀ k, d < k →
    spec_l5Find.l0 k l s (i : Int) = some (match l[cnt (lessK oId s) l]? with | some x => if x.f0 = s then (cnt (lessK oId s) l : Int) else -1 | none => -1)
  | 0, i, hi, hm, k, hk => by
    obtain ⟨k, rfl⟩ : ∃ m, k = m + 1 := ⟨k - 1, by omega⟩
    have hle := cnt_le (lessK oId s) l
    have hn : l[cnt (lessK oId s) l]? = none := List.getElem?_eq_none (by omega)
    rw [spec_l5Find.l0, if_neg (by omega), hn]
  | d + 1, i, hi, hm, k, hk => by
    obtain ⟨k, rfl⟩ : ∃ m, k = m + 1 := ⟨k - 1, by omega⟩
    have w3 : wrap64 ((i : Int) + 1) = ((i + 1 : Nat) : Int) := (wrap_in (by omega) (by omega)).trans (by omega)
    have hlt : i < l.length := by omega
    have hx : l[i]? = some (oAt l i) := by
      rw [List.getElem?_eq_getElem hlt]
      congr 1
      unfold oAt
      rw [List.getD_eq_getElem?_getD, List.getElem?_eq_getElem hlt, Option.getD_some]
    rw [spec_l5Find.l0, if_pos (by omega), if_pos (by omega), rdO, w3]
    rcases Nat.lt_or_ge i (cnt (lessK oId s) l) with h1 | h1
    · have hless := (cut_rising oId hr s i _ hx).2 h1
      rw [if_neg (fun z => by
        have e : (oAt l i).f0 = s := toList_inj z
        unfold lessK oId at hless
        rw [e, lessB_irrefl] at hless
        cases hless)]
      exact spec_find_from l s hr hl d (i + 1) (by omega) h1 k (by omega)
    · have e : i = cnt (lessK oId s) l := by omega
      rw [← e, hx]
      by_cases he : (oAt l i).f0 = s
      · rw [if_pos (by rw [he])]
        show _ = some (if (oAt l i).f0 = s then _ else _)
        rw [if_pos he]
      · rw [if_neg (fun z => he (toList_inj z))]
        show _ = some (if (oAt l i).f0 = s then _ else _)
        rw [if_neg he]
        -- nothing behind has the key
        have rest : ∀ (d i : Nat), i + d = l.length → cnt (lessK oId s) l < i → ∀ k, d < k → spec_l5Find.l0 k l s (i : Int) = some (-1) := by
          intro d
          induction d with
          | zero =>
            intro i hi _ k hk
            obtain ⟨k, rfl⟩ : ∃ m, k = m + 1 := ⟨k - 1, by omega⟩
            rw [spec_l5Find.l0, if_neg (by omega)]
          | succ d ih =>
            intro i hi hci k hk
            obtain ⟨k, rfl⟩ : ∃ m, k = m + 1 := ⟨k - 1, by omega⟩
            have w4 : wrap64 ((i : Int) + 1) = ((i + 1 : Nat) : Int) := (wrap_in (by omega) (by omega)).trans (by omega)
            have hlt : i < l.length := by omega
            have hx : l[i]? = some (oAt l i) := by
              rw [List.getElem?_eq_getElem hlt]
              congr 1
              unfold oAt
              rw [List.getD_eq_getElem?_getD, List.getElem?_eq_getElem hlt, Option.getD_some]
            rw [spec_l5Find.l0, if_pos (by omega), if_pos (by omega), rdO, w4, if_neg (fun z => by
              have := key_at oId hr s i _ hx (toList_inj z)
              omega)]
            exact ih (i + 1) (by omega) (by omega) k (by omega)
        exact rest d (i + 1) (by omega) (by omega) k (by omega)
theorem spec_put_from (l : List IObj) (kind : Int) (data s : ByteArray) (hr : rising oId l) (hl : l.length ≤ 1048576) : ∀ (d i : Nat), i + d = cnt (lessK oId s) l → ∀ k, d < k →
    spec_l5Put.l0 k l kind data s (i : Int) = some (l.take (cnt (lessK oId s) l) ++ [(⟨s, kind, data⟩ : IObj)] ++ l.drop (cnt (lessK oId s) l), s, 0)
  | 0, i, hi, k, hk => by
    obtain ⟨k, rfl⟩ : ∃ m, k = m + 1 := ⟨k - 1, by omega⟩
    have hle := cnt_le (lessK oId s) l
    have e : i = cnt (lessK oId s) l := by omega
    rw [← e] at hle ⊢
    have hend : (spec_l5Copy.f (l.take (i : Int).toNat)).bind (fun t488 => if t488.length < 3518437208883 then ((some (t488 ++ [(⟨s, kind, data⟩ : IObj)] : List IObj)).bind fun y491 => ((some (l.drop (i : Int).toNat : List IObj)).bind fun y494 => (if y491.length + y494.length < 3518437208883 then (some ((y491 ++ y494), s, (0 : Int))) else none))) else none) = some (l.take i ++ [(⟨s, kind, data⟩ : IObj)] ++ l.drop i, s, 0) := by
      rw [Int.toNat_natCast]
      unfold spec_l5Copy.f
      simp only [Option.bind_some, List.length_nil, List.nil_append]
      rw [if_pos (by rw [List.length_take]; omega)]
      simp only [Option.bind_some]
      rw [if_pos (by rw [List.length_take]; omega), if_pos (by simp only [List.length_append, List.length_take, List.length_drop, List.length_singleton]; omega)]
    by_cases hlt : i < l.length
    · have hx : l[i]? = some (oAt l i) := by
        rw [List.getElem?_eq_getElem hlt]
        congr 1
        unfold oAt
        rw [List.getD_eq_getElem?_getD, List.getElem?_eq_getElem hlt, Option.getD_some]
      have hn : ¬ lessK oId s (oAt l i) = true := fun z => by
        have := (cut_rising oId hr s i _ hx).1 z
        omega
      rw [spec_l5Put.l0, if_pos (by omega), if_pos (by omega), rdO, toList_eq, toList_eq, if_neg (show ¬ Op.bytesLess _ _ = true from hn), if_pos (by omega)]
      exact hend
    · rw [spec_l5Put.l0, if_neg (by omega), if_pos (by omega), if_pos (by omega)]
      exact hend
  | d + 1, i, hi, k, hk => by
    obtain ⟨k, rfl⟩ : ∃ m, k = m + 1 := ⟨k - 1, by omega⟩
    have hle := cnt_le (lessK oId s) l
    have w3 : wrap64 ((i : Int) + 1) = ((i + 1 : Nat) : Int) := (wrap_in (by omega) (by omega)).trans (by omega)
    have hlt : i < l.length := by omega
    have hx : l[i]? = some (oAt l i) := by
      rw [List.getElem?_eq_getElem hlt]
      congr 1
      unfold oAt
      rw [List.getD_eq_getElem?_getD, List.getElem?_eq_getElem hlt, Option.getD_some]
    have hless := (cut_rising oId hr s i _ hx).2 (by omega)
    rw [spec_l5Put.l0, if_pos (by omega), if_pos (by omega), rdO, toList_eq, toList_eq, if_pos (show Op.bytesLess _ _ = true from hless), w3]
    exact spec_put_from l kind data s hr hl d (i + 1) (by omega) k (by omega)
theorem putV_eq {l : List IObj} (hr : rising oId l) (kind : Int) (data : ByteArray) : putV l kind data = (match l[cnt (lessK oId (idV kind data)) l]? with
    | some x => if x.f0 = idV kind data then (if x.f2 = data then (0, idV kind data, l) else (6, ⟨#[]⟩, [])) else (if l.length = 200 then (2, ⟨#[]⟩, []) else (0, idV kind data, l.take (cnt (lessK oId (idV kind data)) l) ++ [(⟨idV kind data, kind, data⟩ : IObj)] ++ l.drop (cnt (lessK oId (idV kind data)) l)))
    | none => if l.length = 200 then (2, ⟨#[]⟩, []) else (0, idV kind data, l.take (cnt (lessK oId (idV kind data)) l) ++ [(⟨idV kind data, kind, data⟩ : IObj)] ++ l.drop (cnt (lessK oId (idV kind data)) l))) := by
  have e : (cmpO (idV kind data)) = cmpK oId (idV kind data) := rfl
  unfold putV putO
  rw [e, bs_rising oId hr]
  cases hx : l[cnt (lessK oId (idV kind data)) l]? with
  | none =>
    rw [hit_none oId hr _ hx, if_neg (by decide)]
  | some x =>
    rw [hit_rising oId hr _ x hx]
    have hg : (l.getD (cnt (lessK oId (idV kind data)) l) z96) = x := by rw [List.getD_eq_getElem?_getD, hx]; rfl
    rw [hg]
    by_cases he : x.f0 = idV kind data
    · rw [if_pos (decide_eq_true he)]
      show _ = if x.f0 = idV kind data then _ else _
      rw [if_pos he]
    · rw [if_neg (by rw [decide_eq_false he]; decide)]
      show _ = if x.f0 = idV kind data then _ else _
      rw [if_neg he]
theorem spec_putV (l : List IObj) (kind : Int) (data : ByteArray) (hr : rising oId l) (hko : kindOk kind = true) (hl : l.length ≤ 200) (hb : data.size ≤ 1048576) (k : Nat) (hk : 1048890 < k) : spec_l5Put.f k l kind data = some ((putV l kind data).2.2, (putV l kind data).2.1, (putV l kind data).1) := by
  rw [putV_eq hr]
  obtain ⟨n, rfl, h1, h3⟩ := kind_nat hko
  unfold spec_l5Put.f
  rw [spec_id n h1 h3 data (by omega) k (by omega), Option.bind_some]
  generalize idV (n : Int) data = s
  have hf := spec_find_from l s hr (by omega) l.length 0 (by omega) (Nat.zero_le _) k (by omega)
  have hp := spec_put_from l (n : Int) data s hr (by omega) (cnt (lessK oId s) l) 0 (by omega) k (by have := cnt_le (lessK oId s) l; omega)
  unfold spec_l5Find.f
  rw [show spec_l5Find.l0 k l s 0 = _ from hf, Option.bind_some]
  cases hx : l[cnt (lessK oId s) l]? with
  | none =>
    show (if (-1 : Int) ≥ 0 then _ else _) = _
    rw [if_neg (by decide)]
    show _ = some ((if l.length = 200 then _ else _ : Int × ByteArray × List IObj).2.2, _, _)
    by_cases hn : l.length = 200
    · rw [if_pos (by omega), if_pos hn]
    · rw [if_neg (by omega), if_neg hn]
      exact hp
  | some x =>
    have hlt := (List.getElem?_eq_some_iff.1 hx).1
    by_cases he : x.f0 = s
    · show (if (if x.f0 = s then (cnt (lessK oId s) l : Int) else -1) ≥ 0 then _ else _) = some ((if x.f0 = s then _ else _ : Int × ByteArray × List IObj).2.2, (if x.f0 = s then _ else _ : Int × ByteArray × List IObj).2.1, (if x.f0 = s then _ else _ : Int × ByteArray × List IObj).1)
      simp only [if_pos he]
      have hg : oAt l (cnt (lessK oId s) l) = x := by unfold oAt; rw [List.getD_eq_getElem?_getD, hx]; rfl
      rw [if_pos (by omega), if_pos (by omega), if_pos (by omega), rdO, hg]
      by_cases hd : x.f2 = data
      · rw [if_pos (by rw [hd]), if_pos hd]
        unfold spec_l5Copy.f
        simp only [Option.bind_some, List.length_nil, List.nil_append]
        rw [if_pos (by omega)]
        rfl
      · rw [if_neg (fun z => hd (toList_inj z)), if_neg hd]
    · show (if (if x.f0 = s then (cnt (lessK oId s) l : Int) else -1) ≥ 0 then _ else _) = some ((if x.f0 = s then _ else _ : Int × ByteArray × List IObj).2.2, (if x.f0 = s then _ else _ : Int × ByteArray × List IObj).2.1, (if x.f0 = s then _ else _ : Int × ByteArray × List IObj).1)
      simp only [if_neg he]
      rw [if_neg (by decide)]
      by_cases hn : l.length = 200
      · rw [if_pos (by omega), if_pos hn]
      · rw [if_neg (by omega), if_neg hn]
        exact hp
theorem putV_len {l : List IObj} (hr : rising oId l) (kind : Int) (data : ByteArray) (hl : l.length ≤ 200) : (putV l kind data).2.2.length ≤ 200 := by
  rw [putV_eq hr]
  have hle := cnt_le (lessK oId (idV kind data)) l
  have e : ∀ x : IObj, (l.take (cnt (lessK oId (idV kind data)) l) ++ [x] ++ l.drop (cnt (lessK oId (idV kind data)) l)).length = l.length + 1 := fun x => by
    simp only [List.length_append, List.length_take, List.length_drop, List.length_singleton]
    omega
  (repeat' split)
  all_goals first | exact hl | exact Nat.zero_le _ | (show (_ ++ _ ++ _ : List IObj).length ≤ _; rw [e]; omega)
open Go.Proofs.YtjibadlbiapcmaaDoor.PX.X (lessB lessB_irrefl lessB_trans lessB_eq)
set_option linter.unusedVariables false
theorem oconv_small {l : List LObj} (h : ∀ x ∈ l, objSmall x) : oSmall (l.map objConv) := by
  intro x hx
  obtain ⟨y, hy, rfl⟩ := List.mem_map.1 hx
  exact (h y hy).2
theorem putV_none {l : List IObj} (h3 : rising oId l) {kind : Int} {data : ByteArray} (hz : ¬ (putV l kind data).1 = 0) : putV l kind data = ((putV l kind data).1, ⟨#[]⟩, []) := by
  rw [putV_eq h3] at hz ⊢
  revert hz
  cases l[cnt (lessK oId (idV kind data)) l]? with
  | none =>
    intro hz
    by_cases hn : l.length = 200
    · simp only [if_pos hn]
    · simp only [if_neg hn] at hz
      exact absurd trivial hz
  | some x =>
    intro hz
    by_cases he : x.f0 = idV kind data
    · simp only [if_pos he] at hz ⊢
      by_cases hd : x.f2 = data
      · simp only [if_pos hd] at hz
        exact absurd trivial hz
      · simp only [if_neg hd]
    · simp only [if_neg he] at hz ⊢
      by_cases hn : l.length = 200
      · simp only [if_pos hn]
      · simp only [if_neg hn] at hz
        exact absurd trivial hz
theorem rising_pair (l : List IObj) : rising oId l ↔ l.Pairwise fun x y => lessB x.f0 y.f0 = true := by
  rw [List.pairwise_iff_getElem]
  constructor
  · intro h i j hi hj hij
    exact h i j _ _ hij (List.getElem?_eq_getElem hi) (List.getElem?_eq_getElem hj)
  · intro h i j x y hij hx hy
    obtain ⟨hi, rfl⟩ := List.getElem?_eq_some_iff.1 hx
    obtain ⟨hj, rfl⟩ := List.getElem?_eq_some_iff.1 hy
    exact h i j hi hj hij
theorem rising_ins {l : List IObj} (hr : rising oId l) (s : ByteArray) (x : IObj) (hx : x.f0 = s) (hn : ∀ y, l[cnt (lessK oId s) l]? = some y → y.f0 ≠ s) : rising oId (l.take (cnt (lessK oId s) l) ++ [x] ++ l.drop (cnt (lessK oId s) l)) := by
  have hp := (rising_pair l).1 hr
  rw [rising_pair]
  rw [← List.take_append_drop (cnt (lessK oId s) l) l, List.pairwise_append] at hp
  obtain ⟨p1, p2, p3⟩ := hp
  have ha : ∀ y ∈ l.take (cnt (lessK oId s) l), lessB y.f0 s = true := fun y hy => by
    obtain ⟨i, hi, he⟩ := List.mem_iff_getElem.1 hy
    rw [List.length_take] at hi
    have hiy : l[i]? = some y := by
      rw [List.getElem_take] at he
      rw [← he]
      exact List.getElem?_eq_getElem _
    exact (cut_rising oId hr s i y hiy).2 (by omega)
  have hb : ∀ y ∈ l.drop (cnt (lessK oId s) l), lessB s y.f0 = true := fun y hy => by
    obtain ⟨i, hi, he⟩ := List.mem_iff_getElem.1 hy
    rw [List.length_drop] at hi
    have hiy : l[cnt (lessK oId s) l + i]? = some y := by
      rw [List.getElem_drop] at he
      rw [← he]
      exact List.getElem?_eq_getElem _
    have h1 : ¬ lessB y.f0 s = true := fun z => by
      have := (cut_rising oId hr s _ y hiy).1 z
      omega
    refine lessB_total h1 (fun z => ?_)
    have := key_at oId hr s _ y hiy z
    have e : i = 0 := by omega
    subst e
    exact hn y hiy z
  rw [List.append_assoc, List.pairwise_append]
  refine ⟨p1, ?_, ?_⟩
  · rw [List.singleton_append, List.pairwise_cons]
    exact ⟨fun y hy => by rw [hx]; exact hb y hy, p2⟩
  · intro y hy z hz
    rcases List.mem_append.1 hz with hz | hz
    · rw [List.mem_singleton.1 hz, hx]
      exact ha y hy
    · exact p3 y hy z hz
theorem putV_rising {l : List IObj} (hr : rising oId l) (kind : Int) (data : ByteArray) : rising oId (putV l kind data).2.2 := by
  have hnil : rising oId ([] : List IObj) := fun i j x y _ hx _ => by cases hx
  rw [putV_eq hr]
  cases hx : l[cnt (lessK oId (idV kind data)) l]? with
  | none =>
    show rising oId (if l.length = 200 then _ else _ : Int × ByteArray × List IObj).2.2
    by_cases hn : l.length = 200
    · rw [if_pos hn]; exact hnil
    · rw [if_neg hn]
      exact rising_ins hr _ _ rfl (fun y hy => by rw [hx] at hy; cases hy)
  | some x =>
    show rising oId (if x.f0 = idV kind data then _ else _ : Int × ByteArray × List IObj).2.2
    by_cases he : x.f0 = idV kind data
    · rw [if_pos he]
      by_cases hd : x.f2 = data
      · rw [if_pos hd]; exact hr
      · rw [if_neg hd]; exact hnil
    · rw [if_neg he]
      by_cases hn : l.length = 200
      · rw [if_pos hn]; exact hnil
      · rw [if_neg hn]
        exact rising_ins hr _ _ rfl (fun y hy => by rw [hx] at hy; rw [← Option.some.inj hy]; exact he)
/-- What PutObject tells. -/
def putObjV (l : List IObj) (kind : Int) (data : ByteArray) : Int × ByteArray × List IObj := if storeV l = 0 then (if codeV kind data = 0 then putV l kind data else (codeV kind data, ⟨#[]⟩, [])) else (storeV l, ⟨#[]⟩, [])
theorem putObjV_len (l : List IObj) (kind : Int) (data : ByteArray) : (putObjV l kind data).2.2.length ≤ 200 := by
  unfold putObjV
  by_cases h : storeV l = 0
  · rw [if_pos h]
    obtain ⟨h1, _, h3⟩ := storeV_ok h
    by_cases hc : codeV kind data = 0
    · rw [if_pos hc]
      exact putV_len h3 kind data h1
    · rw [if_neg hc]
      exact Nat.zero_le _
  · rw [if_neg h]
    exact Nat.zero_le _
theorem spec_putObj (l : List IObj) (kind : Int) (data : ByteArray) (hs : oSmall l) (hb : data.size ≤ 1048576) (k : Nat) (hk : 1049000 < k) : spec_PutObject.f k l kind data = some (putObjV l kind data) := by
  unfold spec_PutObject.f
  rw [spec_store l hs k hk, Option.bind_some]
  by_cases h : storeV l = 0
  · obtain ⟨h1, _, h3⟩ := storeV_ok h
    rw [if_pos h, spec_idOf kind data hb k (by omega), Option.bind_some]
    by_cases hc : codeV kind data = 0
    · rw [if_pos hc, show putObjV l kind data = putV l kind data from by unfold putObjV; rw [if_pos h, if_pos hc], spec_putV l kind data h3 (code_kind hc) h1 hb k (by omega), Option.bind_some]
      generalize hp : putV l kind data = p
      by_cases hz : p.1 = 0
      · rw [if_pos hz]
        obtain ⟨a, b, c⟩ := p
        obtain rfl : a = 0 := hz
        rfl
      · rw [if_neg hz]
        have : p = (p.1, ⟨#[]⟩, []) := by
          rw [← hp] at hz ⊢
          exact putV_none h3 hz
        rw [this]
    · rw [show putObjV l kind data = (codeV kind data, ⟨#[]⟩, []) from by unfold putObjV; rw [if_pos h, if_neg hc]]
      simp only [if_neg hc]
  · rw [if_neg h, show putObjV l kind data = (storeV l, ⟨#[]⟩, []) from by unfold putObjV; rw [if_neg h]]
theorem impl_putObj (l : List IObj) (kind : Int) (data : ByteArray) (hs : oSmall l) (hb : data.size ≤ 1048576) (k : Nat) (hk : 1049000 < k) : impl_PutObject.f k l kind data = some (putObjV l kind data) := by
  unfold impl_PutObject.f putObjV
  rw [impl_store l hs k hk, Option.bind_some, impl_code kind data k (by omega), Option.bind_some, show impl_firstCode.f k ([storeV l, codeV kind data] : List Int) = _ from firstCode_two _ _ k (by omega), Option.bind_some]
  by_cases h : storeV l = 0
  · obtain ⟨h1, _, h3⟩ := storeV_ok h
    rw [if_pos h, if_pos h]
    by_cases hc : codeV kind data = 0
    · rw [if_pos hc, if_pos hc, impl_putV l kind data (code_kind hc) (by omega) hb k (by omega), Option.bind_some]
    · rw [if_neg hc, if_neg hc]
  · rw [if_neg h, if_neg h, if_neg h]
open Go.Proofs.YtjibadlbiapcmaaDoor.PX.X (lessB lessB_irrefl lessB_trans lessB_eq)
set_option linter.unusedVariables false
def mStepT (b : List IObj) (i : Nat) (s : Int × ByteArray × List IObj) : Sum (Int × ByteArray × List IObj) (Int × ByteArray × List IObj) :=
  if (putV s.2.2 (oAt b i).f1 (oAt b i).f2).1 = 0 then .inr (putV s.2.2 (oAt b i).f1 (oAt b i).f2) else .inl ((putV s.2.2 (oAt b i).f1 (oAt b i).f2).1, ⟨#[]⟩, [])
def mStep (b : List IObj) (i : Nat) (s : List IObj) : Sum (Int × ByteArray × List IObj) (List IObj) :=
  if (putV s (oAt b i).f1 (oAt b i).f2).1 = 0 then .inr (putV s (oAt b i).f1 (oAt b i).f2).2.2 else .inl ((putV s (oAt b i).f1 (oAt b i).f2).1, ⟨#[]⟩, [])
theorem run_merge (b : List IObj) : ∀ (d i : Nat) (s : Int × ByteArray × List IObj), run (mStepT b) (fun s => ((0 : Int), (⟨#[]⟩ : ByteArray), s.2.2)) d i s = run (mStep b) (fun s => ((0 : Int), (⟨#[]⟩ : ByteArray), s)) d i s.2.2
  | 0, i, s => rfl
  | d + 1, i, s => by
    by_cases h : (putV s.2.2 (oAt b i).f1 (oAt b i).f2).1 = 0
    · rw [run_on (s' := putV s.2.2 (oAt b i).f1 (oAt b i).f2) (by unfold mStepT; rw [if_pos h]), run_on (s' := (putV s.2.2 (oAt b i).f1 (oAt b i).f2).2.2) (by unfold mStep; rw [if_pos h])]
      exact run_merge b d (i + 1) _
    · rw [run_out (r := ((putV s.2.2 (oAt b i).f1 (oAt b i).f2).1, ⟨#[]⟩, [])) (by unfold mStepT; rw [if_neg h]), run_out (r := ((putV s.2.2 (oAt b i).f1 (oAt b i).f2).1, ⟨#[]⟩, [])) (by unfold mStep; rw [if_neg h])]
/-- What MergeStores tells. -/
def mergeV (a b : List IObj) : Int × ByteArray × List IObj :=
  if storeV a = 0 then (if storeV b = 0 then run (mStep b) (fun s => ((0 : Int), (⟨#[]⟩ : ByteArray), s)) b.length 0 a else (storeV b, ⟨#[]⟩, [])) else (storeV a, ⟨#[]⟩, [])
def okS (l : List IObj) : Prop := rising oId l ∧ l.length ≤ 200
theorem okS_put {l : List IObj} (h : okS l) (kind : Int) (data : ByteArray) : okS (putV l kind data).2.2 := ⟨putV_rising h.1 kind data, putV_len h.1 kind data h.2⟩
theorem spec_merge_loop (b : List IObj) (hb : storeV b = 0) (hs : oSmall b) (a : List IObj) (ha : okS a) (k : Nat) (hk : 1049900 < k) : spec_MergeStores.l0 k b a 0 = some (run (mStep b) (fun s => ((0 : Int), (⟨#[]⟩ : ByteArray), s)) b.length 0 a) := by
  obtain ⟨h1, h2, h3⟩ := storeV_ok hb
  refine loop0 (F := fun k i (s : List IObj) => spec_MergeStores.l0 k b s (i : Int)) b.length 1049000 (fun _ s => okS s) (fun i s s' hi hI h => ?_) (fun k i s hK hi hI => ?_) (fun k s _ _ => ?_) a ha k (by omega)
  · unfold mStep at h
    split at h
    · rw [← Sum.inr.inj h]
      exact okS_put hI _ _
    · cases h
  · have w3 : wrap64 ((i : Int) + 1) = ((i + 1 : Nat) : Int) := (wrap_in (by omega) (by omega)).trans (by omega)
    simp only [spec_MergeStores.l0]
    rw [if_pos (by omega), if_pos (by omega), rdO, spec_putV s _ _ hI.1 (code_kind (h2 i hi).1) hI.2 (oSmall_at hs hi) k (by omega), Option.bind_some, w3]
    unfold mStep
    by_cases h : (putV s (oAt b i).f1 (oAt b i).f2).1 = 0
    · rw [if_pos h, if_pos h]
    · rw [if_neg h, if_neg h]
  · simp only [spec_MergeStores.l0]
    rw [if_neg (by omega)]
theorem impl_merge_loop (b : List IObj) (hb : storeV b = 0) (hs : oSmall b) (a : List IObj) (ha : okS a) (k : Nat) (hk : 1049900 < k) : impl_MergeStores.l0 k b (b.length : Int) 0 0 ⟨#[]⟩ a = some (run (mStep b) (fun s => ((0 : Int), (⟨#[]⟩ : ByteArray), s)) b.length 0 a) := by
  obtain ⟨h1, h2, h3⟩ := storeV_ok hb
  rw [show run (mStep b) (fun s => ((0 : Int), (⟨#[]⟩ : ByteArray), s)) b.length 0 a = run (mStepT b) (fun s => ((0 : Int), (⟨#[]⟩ : ByteArray), s.2.2)) b.length 0 (0, ⟨#[]⟩, a) from (run_merge b b.length 0 (0, ⟨#[]⟩, a)).symm]
  refine loop0 (F := fun k i (s : Int × ByteArray × List IObj) => impl_MergeStores.l0 k b (b.length : Int) (i : Int) s.1 s.2.1 s.2.2) b.length 1049000 (fun _ s => okS s.2.2) (fun i s s' hi hI h => ?_) (fun k i s hK hi hI => ?_) (fun k s _ _ => ?_) (0, ⟨#[]⟩, a) ha k (by omega)
  · unfold mStepT at h
    split at h
    · rw [← Sum.inr.inj h]
      exact okS_put hI _ _
    · cases h
  · have w3 : wrap64 ((i : Int) + 1) = ((i + 1 : Nat) : Int) := (wrap_in (by omega) (by omega)).trans (by omega)
    simp only [impl_MergeStores.l0]
    rw [if_pos (by omega), if_pos (by omega), if_pos (by omega), rdO, impl_putV s.2.2 _ _ (code_kind (h2 i hi).1) (by have := hI.2; omega) (oSmall_at hs hi) k (by omega), Option.bind_some, w3]
    unfold mStepT
    by_cases h : (putV s.2.2 (oAt b i).f1 (oAt b i).f2).1 = 0
    · rw [if_pos h, if_pos h]
    · rw [if_neg h, if_neg h]
      rw [putV_none hI.1 h]
  · simp only [impl_MergeStores.l0]
    rw [if_neg (by omega)]
theorem spec_merge (a b : List IObj) (ha : oSmall a) (hb : oSmall b) (k : Nat) (hk : 1049900 < k) : spec_MergeStores.f k a b = some (mergeV a b) := by
  unfold spec_MergeStores.f mergeV
  rw [spec_store a ha k (by omega), Option.bind_some]
  by_cases h : storeV a = 0
  · obtain ⟨h1, _, h3⟩ := storeV_ok h
    rw [if_pos h, if_pos h, spec_store b hb k (by omega), Option.bind_some]
    by_cases h2 : storeV b = 0
    · rw [if_pos h2, if_pos h2]
      unfold spec_l5Copy.f
      simp only [Option.bind_some, List.length_nil, List.nil_append]
      rw [if_pos (by omega), Option.bind_some]
      exact spec_merge_loop b h2 hb a ⟨h3, h1⟩ k hk
    · rw [if_neg h2, if_neg h2]
  · rw [if_neg h, if_neg h]
theorem impl_merge (a b : List IObj) (ha : oSmall a) (hb : oSmall b) (k : Nat) (hk : 1049900 < k) : impl_MergeStores.f k a b = some (mergeV a b) := by
  unfold impl_MergeStores.f mergeV
  rw [impl_store a ha k (by omega), Option.bind_some, impl_store b hb k (by omega), Option.bind_some, show impl_firstCode.f k ([storeV a, storeV b] : List Int) = _ from firstCode_two _ _ k (by omega), Option.bind_some]
  by_cases h : storeV a = 0
  · obtain ⟨h1, _, h3⟩ := storeV_ok h
    rw [if_pos h, if_pos h]
    by_cases h2 : storeV b = 0
    · rw [if_pos h2, if_pos h2]
      unfold impl_Object_96.f
      rw [if_pos (by omega), Option.bind_some]
      exact impl_merge_loop b h2 hb a ⟨h3, h1⟩ k hk
    · rw [if_neg h2, if_neg h2]
  · rw [if_neg h, if_neg h, if_neg h]
theorem merge_run_len (b : List IObj) : ∀ (d i : Nat) (s : List IObj), okS s → (run (mStep b) (fun s => ((0 : Int), (⟨#[]⟩ : ByteArray), s)) d i s).2.2.length ≤ 200
  | 0, i, s, h => h.2
  | d + 1, i, s, h => by
    by_cases hc : (putV s (oAt b i).f1 (oAt b i).f2).1 = 0
    · rw [run_on (s' := (putV s (oAt b i).f1 (oAt b i).f2).2.2) (by unfold mStep; rw [if_pos hc])]
      exact merge_run_len b d (i + 1) _ (okS_put h _ _)
    · rw [run_out (r := ((putV s (oAt b i).f1 (oAt b i).f2).1, ⟨#[]⟩, [])) (by unfold mStep; rw [if_neg hc])]
      exact Nat.zero_le _
theorem mergeV_len (a b : List IObj) : (mergeV a b).2.2.length ≤ 200 := by
  unfold mergeV
  by_cases h : storeV a = 0
  · obtain ⟨h1, _, h3⟩ := storeV_ok h
    rw [if_pos h]
    by_cases h2 : storeV b = 0
    · rw [if_pos h2]
      exact merge_run_len b b.length 0 a ⟨h3, h1⟩
    · rw [if_neg h2]
      exact Nat.zero_le _
  · rw [if_neg h]
    exact Nat.zero_le _
theorem mergeStores_pure (a b : List LObj) (ha1 : a.length * 40 ≤ 140737488351232) (ha2 : ∀ x ∈ a, x.f0.size ≤ 140737488351232 ∧ (Go.Lit.int .i64 x.f1).wf = true ∧ x.f2.size ≤ 140737488351232) (hb1 : b.length * 40 ≤ 140737488351232) (hb2 : ∀ x ∈ b, x.f0.size ≤ 140737488351232 ∧ (Go.Lit.int .i64 x.f1).wf = true ∧ x.f2.size ≤ 140737488351232) : ∃ k, laws_FnExactMergeStores.f k a b = some true := by
  obtain ⟨K, hK⟩ : ∃ K, K = a.length + b.length + 1052810 := ⟨_, rfl⟩
  refine ⟨K + 1, ?_⟩
  unfold laws_FnExactMergeStores.f
  obtain ⟨r, hr, hle, hq⟩ := szObjectS_tells a (by omega) (fun x hx => ⟨(ha2 x hx).1, (ha2 x hx).2.2⟩) 1048576 (by decide) (by decide) (K + 1) (by omega)
  rw [hr, Option.bind_some]
  by_cases c : r < 0
  · rw [if_pos c]
  obtain ⟨hna, hsa⟩ := hq (by omega)
  rw [if_neg c]
  obtain ⟨r2, hr2, hle2, hq2⟩ := szObjectS_tells b (by omega) (fun x hx => ⟨(hb2 x hx).1, (hb2 x hx).2.2⟩) r (by omega) (by omega) (K + 1) (by omega)
  rw [hr2, Option.bind_some]
  by_cases c2 : r2 < 0
  · rw [if_pos c2]
  obtain ⟨hnb, hsb⟩ := hq2 (by omega)
  rw [if_neg c2]
  have hma : (a.map objConv).length = a.length := List.length_map _
  have hmb : (b.map objConv).length = b.length := List.length_map _
  have hv := mergeV_len (a.map objConv) (b.map objConv)
  have e1 := toObjectS_tells a hna (K + 1) (by omega)
  have e1b := toObjectS_tells b hnb (K + 1) (by omega)
  have e2 := spec_merge (a.map objConv) (b.map objConv) (oconv_small hsa) (oconv_small hsb) (K + 1) (by omega)
  have e3 := impl_merge (a.map objConv) (b.map objConv) (oconv_small hsa) (oconv_small hsb) (K + 1) (by omega)
  have e4 := eqObjectS_same (a.map objConv) (by omega) (K + 1) (by omega)
  have e4b := eqObjectS_same (b.map objConv) (by omega) (K + 1) (by omega)
  have e5 := markObjectS_tells (a.map objConv) 1 (by omega) (K + 1) (by omega)
  have e5b := markObjectS_tells (b.map objConv) (1 + 3 * (a.map objConv).length) (by omega) (K + 1) (by omega)
  have e6 := eqStoreResult_same (mergeV (a.map objConv) (b.map objConv)).1 (mergeV (a.map objConv) (b.map objConv)).2.1 (mergeV (a.map objConv) (b.map objConv)).2.2 (by omega) (K + 1) (by omega)
  simp only [e1, e1b, e2, e3, e4, e4b, e6, Option.bind_some, if_true]
  rw [show laws_markObjectS.f (K + 1) (a.map objConv) 1 = _ from e5, Option.bind_some, e5b, Option.bind_some, if_neg (by omega)]
  rw [laws_FnExactMergeStores.j0, if_neg (by decide)]
  have m1 := markObjectS_tells (mergeV (a.map objConv) (b.map objConv)).2.2 1 (by omega) K (by omega)
  have m2 := heldObjectS_tells (mergeV (a.map objConv) (b.map objConv)).2.2.length 1 (by omega) K (by omega)
  have e1' := toObjectS_tells a hna K (by omega)
  have e1b' := toObjectS_tells b hnb K (by omega)
  have e3' := impl_merge (a.map objConv) (b.map objConv) (oconv_small hsa) (oconv_small hsb) K (by omega)
  have e6' := eqStoreResult_same (mergeV (a.map objConv) (b.map objConv)).1 (mergeV (a.map objConv) (b.map objConv)).2.1 (mergeV (a.map objConv) (b.map objConv)).2.2 (by omega) K (by omega)
  unfold laws_markStoreResult.f laws_heldStoreResult.f
  rw [show laws_markObjectS.f K (mergeV (a.map objConv) (b.map objConv)).2.2 1 = _ from m1]
  simp only [Option.bind_some]
  rw [show laws_heldObjectS.f K (objMarks 1 (mergeV (a.map objConv) (b.map objConv)).2.2.length) 1 = _ from m2]
  simp only [Option.bind_some]
  rw [if_neg (by omega)]
  simp only [Option.bind_some]
  rw [if_neg (by omega)]
  simp only [e1', e1b', e3', e6', Option.bind_some, if_true]
  rw [if_neg (by omega)]
end Go.Proofs.YtjibadlbiapcmaaDoorX
