/- Texts of this claim set one behind another by wip/bundle.py: XStoreF, XStoreR, XOkO. -/
import Derived.Test.YtkjgnnhpjcofiaaGreatDoorBReadFiles15
import Derived.Test.YtkjgnnhpjcofiaaGreatDoorBReadFiles16
import Derived.Test.YtkjgnnhpjcofiaaGreatDoorBReadFiles29
import Derived.Test.YtkjgnnhpjcofiaaGreatDoorBReadFiles19
import Derived.Test.YtkjgnnhpjcofiaaGreatDoorBReadFiles40
namespace Go.Proofs.YtkjgnnhpjcofiaaGreatDoorX
open Go Go.RowKit Go.Proofs.YtkjgnnhpjcofiaaGreatDoorW.PrintWords Go.Proofs.YtkjgnnhpjcofiaaGreatDoor.PX
open Go.Proofs.YtkjgnnhpjcofiaaGreatDoor.PX.X (lessB lessB_irrefl lessB_trans lessB_eq bsAt bsHit hexD hexF hexL hexF_small hexF_big zeros0 letter idB)
set_option linter.unusedVariables false
theorem hex_four (h : Nat) (hh : h < 65536) : zeros0 (4 - (hexL h).length) ++ hexL h = [hexD (h / 4096 % 16), hexD (h / 256 % 16), hexD (h / 16 % 16), hexD (h % 16)] := by
 unfold hexL
 by_cases h1 : h < 16
 · rw [hexF_small 3 h h1, show h / 4096 % 16 = 0 by omega, show h / 256 % 16 = 0 by omega, show h / 16 % 16 = 0 by omega, show h % 16 = h by omega]
   rfl
 · rw [hexF_big 2 h h1]
   by_cases h2 : h / 16 < 16
   · rw [hexF_small 2 _ h2, show h / 4096 % 16 = 0 by omega, show h / 256 % 16 = 0 by omega, show h / 16 % 16 = h / 16 by omega]
     rfl
   · rw [hexF_big 1 _ h2]
     by_cases h3 : h / 16 / 16 < 16
     · rw [hexF_small 1 _ h3, show h / 4096 % 16 = 0 by omega, show h / 256 % 16 = h / 16 / 16 by omega]
       rfl
     · rw [hexF_big 0 _ h3, hexF_small 0 _ zq7, show h / 4096 % 16 = h / 16 / 16 / 16 by omega, show h / 256 % 16 = h / 16 / 16 % 16 by omega]
       rfl
def idV (kind : Int) (data : ByteArray) : ByteArray := idB kind.toNat (digV data).toNat
theorem dig_cut (d : Nat) (hd : d < 16) : (⟨#[48, 49, 50, 51, 52, 53, 54, 55, 56, 57, 97, 98, 99, 100, 101, 102]⟩ : ByteArray).extract d (d + 1) = ⟨#[hexD d]⟩ := by
 match d, hd with
 | 0, _ => decide +kernel
 | 1, _ => decide +kernel
 | 2, _ => decide +kernel
 | 3, _ => decide +kernel
 | 4, _ => decide +kernel
 | 5, _ => decide +kernel
 | 6, _ => decide +kernel
 | 7, _ => decide +kernel
 | 8, _ => decide +kernel
 | 9, _ => decide +kernel
 | 10, _ => decide +kernel
 | 11, _ => decide +kernel
 | 12, _ => decide +kernel
 | 13, _ => decide +kernel
 | 14, _ => decide +kernel
 | 15, _ => decide +kernel
 | n + 16, h => omega
theorem mk_cat (c : UInt8) (l : List UInt8) : (⟨#[c]⟩ : ByteArray) ++ (⟨l.toArray⟩ : ByteArray) = ⟨(c :: l).toArray⟩ := by
 apply ByteArray.ext
 simp
theorem mk_size (l : List UInt8) : (⟨l.toArray⟩ : ByteArray).size = l.length := by
 show l.toArray.size = _
 rw [List.size_toArray]
theorem idLoop (kind : Int) (k h i : Nat) (out : List UInt8) (hh : h < 65536) (hi : i < 4) (ho : out.length ≤ 4) : spec_l5Id.l0 (k + 1) kind (h : Int) ⟨out.toArray⟩ (i : Int) = spec_l5Id.l0 k kind ((h / 16 : Nat) : Int) ⟨(hexD (h % 16) :: out).toArray⟩ ((i + 1 : Nat) : Int) := by
 have e1 : Int.tmod (h : Int) 16 = ((h % 16 : Nat) : Int) := rfl
 have e2 : Int.tdiv (h : Int) 16 = ((h / 16 : Nat) : Int) := rfl
 have w1 : wrap64 (((h % 16 : Nat) : Int) + 1) = ((h % 16 + 1 : Nat) : Int) := (wrap_in zq7 zq7).trans zq7
 have w2 : wrap64 ((h / 16 : Nat) : Int) = ((h / 16 : Nat) : Int) := wrap_in zq7 zq7
 have w3 : wrap64 ((i : Int) + 1) = ((i + 1 : Nat) : Int) := (wrap_in zq7 zq7).trans zq7
 have d0 := dig_cut (h % 16) zq7
 rw [spec_l5Id.l0, if_pos zq7]
 simp only [e1, e2, w1, w2, w3, Int.toNat_natCast]
 rw [if_pos zq7, if_pos zq7, if_pos zq7, d0, mk_cat, mk_size, if_pos (by show 1 + out.length ≤ _; omega)]
theorem letter_cut (kind : Nat) (h1 : 1 ≤ kind) (h3 : kind ≤ 3) : spec_l5Letter.f (kind : Int) = some ⟨#[letter kind]⟩ := by
 obtain rfl | rfl | rfl : kind = 1 ∨ kind = 2 ∨ kind = 3 := by omega
 all_goals decide +kernel
theorem spec_id (kind : Nat) (h1 : 1 ≤ kind) (h3 : kind ≤ 3) (data : ByteArray) (hb : data.size ≤ 140737488355328) (k : Nat) (hk : data.size + 10 < k) : spec_l5Id.f k (kind : Int) data = some (idV kind data) := by
 obtain ⟨u, hu, hv⟩ := digV_nat data
 obtain ⟨k, rfl⟩ : ∃ m, k = m + 5 := ⟨k - 5, by omega⟩
 unfold spec_l5Id.f idV
 rw [spec_digest data hb (k + 5) zq7, Option.bind_some, hv, Int.toNat_natCast, Int.toNat_natCast]
 have l0 := idLoop kind (k + 4) u 0 [] zq7 zq13 zq16
 have l1 := idLoop kind (k + 3) (u / 16) 1 [hexD (u % 16)] zq7 zq13 zq16
 have l2 := idLoop kind (k + 2) (u / 16 / 16) 2 [hexD (u / 16 % 16), hexD (u % 16)] zq7 zq13 zq16
 have l3 := idLoop kind (k + 1) (u / 16 / 16 / 16) 3 [hexD (u / 16 / 16 % 16), hexD (u / 16 % 16), hexD (u % 16)] zq7 zq13 zq16
 refine (l0.trans (l1.trans (l2.trans l3))).trans ?_
 rw [spec_l5Id.l0, if_neg zq13, letter_cut kind h1 h3, Option.bind_some, if_pos (by rw [mk_size]; show 1 + 4 ≤ _; omega), mk_cat]
 congr 1
 unfold idB
 rw [hex_four u zq7, show u / 4096 = u / 16 / 16 / 16 by omega, show u / 256 = u / 16 / 16 by omega]
theorem impl_id (kind : Nat) (h1 : 1 ≤ kind) (h3 : kind ≤ 3) (data : ByteArray) (hb : data.size ≤ 140737488355328) (k : Nat) (hk : data.size < k) : impl_idOf.f k (kind : Int) data = some (idV kind data) := by
 obtain ⟨u, hu, hv⟩ := digV_nat data
 unfold impl_idOf.f idV
 rw [impl_digest data hb k hk, Option.bind_some, if_pos zq7, if_pos zq7, hv, if_pos zq7, if_pos zq7]
def kindOk (kind : Int) : Bool := decide (1 ≤ kind ∧ kind ≤ 3)
def codeV (kind : Int) (data : ByteArray) : Int := if kindOk kind = true then textV data else 3
theorem spec_kind (kind : Int) : spec_l5Kind.f kind = some (kindOk kind) := by
 unfold spec_l5Kind.f spec_l1In.f kindOk
 by_cases h : kind ≥ 1
 · rw [if_pos h]
   simp only [Option.bind_some]
   congr 1
   apply decide_eq_decide.mpr
   omega
 · rw [if_neg h]
   simp only [Option.bind_some]
   congr 1
   exact (decide_eq_false zq7).symm
theorem impl_kind (kind : Int) : impl_isKind.f kind = some (kindOk kind) := by
 unfold impl_isKind.f impl_within.f kindOk
 by_cases h : kind ≥ 1
 · rw [if_pos h]
   simp only [Option.bind_some]
   congr 1
   apply decide_eq_decide.mpr
   omega
 · rw [if_neg h]
   simp only [Option.bind_some]
   congr 1
   exact (decide_eq_false zq7).symm
theorem impl_code (kind : Int) (data : ByteArray) (k : Nat) (hk : 3 ≤ k) : impl_dataCode.f k kind data = some (codeV kind data) := by
 unfold impl_dataCode.f codeV impl_codeIf.f
 rw [impl_kind, Option.bind_some, impl_text]
 cases hb : kindOk kind with
 | true =>
   simp only [Bool.not_true, Bool.false_eq_true, if_false, Option.bind_some, if_true]
   rw [show impl_firstCode.f k ([0, textV data] : List Int) = _ from firstCode_two _ _ k hk, if_pos rfl, Option.bind_some]
 | false =>
   simp only [Bool.not_false, if_true, Option.bind_some, Bool.false_eq_true, if_false]
   rw [show impl_firstCode.f k ([3, textV data] : List Int) = _ from firstCode_two _ _ k hk, if_neg zq13, Option.bind_some]
theorem kind_nat {kind : Int} (h : kindOk kind = true) : ∃ n : Nat, kind = (n : Int) ∧ 1 ≤ n ∧ n ≤ 3 := by
 have := of_decide_eq_true h
 exact ⟨kind.toNat, by omega, by omega, by omega⟩
theorem spec_idOf (kind : Int) (data : ByteArray) (hb : data.size ≤ 1048576) (k : Nat) (hk : 1048590 < k) : spec_IdOf.f k kind data = some (codeV kind data, if codeV kind data = 0 then idV kind data else ⟨#[]⟩) := by
 unfold spec_IdOf.f codeV
 rw [spec_kind, Option.bind_some]
 cases hk2 : kindOk kind with
 | true =>
   obtain ⟨n, rfl, h1, h3⟩ := kind_nat hk2
   rw [if_pos rfl, if_pos rfl, spec_text data k zq7, Option.bind_some]
   by_cases ht : textV data = 0
   · rw [if_pos ht, if_pos ht, spec_id n h1 h3 data zq7 k zq7, Option.bind_some, ht]
   · rw [if_neg ht, if_neg ht]
 | false =>
   rw [if_neg zq13, if_neg zq13, if_neg zq13]
abbrev oAt (l : List IObj) (i : Nat) : IObj := l.getD i z65
def oSmall (l : List IObj) : Prop := ∀ x ∈ l, x.f2.size ≤ 1048576
theorem oSmall_at {l : List IObj} (h : oSmall l) {i : Nat} (hi : i < l.length) : (oAt l i).f2.size ≤ 1048576 := h _ (getD_mem _ hi)
def storeStep (l : List IObj) (i : Nat) (_ : Unit) : Sum Int Unit :=
 if codeV (oAt l i).f1 (oAt l i).f2 = 0 then
  (if idV (oAt l i).f1 (oAt l i).f2 = (oAt l i).f0 then (if 0 < i ∧ ¬ lessB (oAt l (i - 1)).f0 (oAt l i).f0 = true then .inl 1 else .inr ()) else .inl 1)
 else .inl (codeV (oAt l i).f1 (oAt l i).f2)
def storeV (l : List IObj) : Int := if l.length > 200 then 2 else run (storeStep l) (fun _ => 0) l.length 0 ()
theorem rdO (l : List IObj) (i : Nat) : rd_T65 l (i : Int) = oAt l i := by
 show l.getD ((i : Int)).toNat _ = _
 rw [Int.toNat_natCast]
theorem spec_store (l : List IObj) (hs : oSmall l) (k : Nat) (hk : 1049000 < k) : spec_StoreFault.f k l = some (storeV l) := by
 unfold spec_StoreFault.f storeV
 by_cases hn : l.length > 200
 · rw [if_pos zq7, if_pos hn]
 rw [if_neg zq7, if_neg hn]
 refine loop0 (F := fun k i (_ : Unit) => spec_StoreFault.l0 k l (i : Int)) l.length 1048600 (fun _ _ => True) (fun _ _ _ _ _ _ => trivial) (fun k i _ hK hi _ => ?_) (fun k _ _ _ => ?_) () trivial k zq7
 · have w3 : wrap64 ((i : Int) + 1) = ((i + 1 : Nat) : Int) := (wrap_in zq7 zq7).trans zq7
   simp only [spec_StoreFault.l0]
   rw [if_pos zq7, if_pos zq7, rdO, spec_idOf _ _ (oSmall_at hs hi) k zq7, Option.bind_some, w3]
   unfold storeStep
   by_cases hc : codeV (oAt l i).f1 (oAt l i).f2 = 0
   · rw [if_pos hc]
     simp only [hc, if_true]
     by_cases hid : idV (oAt l i).f1 (oAt l i).f2 = (oAt l i).f0
     · rw [if_pos hid, if_pos (by rw [hid])]
       by_cases h0 : 0 < i
       · have w1 : wrap64 ((i : Int) - 1) = ((i - 1 : Nat) : Int) := (wrap_in zq7 zq7).trans zq7
         rw [if_pos zq7, w1, if_pos zq7, if_pos zq7, rdO, toList_eq, toList_eq]
         by_cases hl : lessB (oAt l (i - 1)).f0 (oAt l i).f0 = true
         · rw [if_pos (show Op.bytesLess _ _ = true from hl), if_neg (fun z => z.2 hl)]
         · rw [if_neg (show ¬ Op.bytesLess _ _ = true from hl), if_pos ⟨h0, hl⟩]
       · rw [if_neg zq7, if_neg (fun z => h0 z.1)]
     · rw [if_neg hid, if_neg (fun z => hid (toList_inj z))]
   · rw [if_neg hc]
     simp only [hc, if_false]
 · simp only [spec_StoreFault.l0]
   rw [if_neg zq7]
theorem impl_store (l : List IObj) (hs : oSmall l) (k : Nat) (hk : 1049000 < k) : impl_StoreFault.f k l = some (storeV l) := by
 unfold impl_StoreFault.f storeV
 by_cases hn : l.length > 200
 · rw [if_pos zq7, if_pos hn]
 rw [if_neg zq7, if_neg hn]
 refine loop0 (F := fun k i (_ : Unit) => impl_StoreFault.l0 k l l (l.length : Int) (i : Int)) l.length 1048600 (fun _ _ => True) (fun _ _ _ _ _ _ => trivial) (fun k i _ hK hi _ => ?_) (fun k _ _ _ => ?_) () trivial k zq7
 · have w3 : wrap64 ((i : Int) + 1) = ((i + 1 : Nat) : Int) := (wrap_in zq7 zq7).trans zq7
   simp only [impl_StoreFault.l0]
   rw [if_pos zq7, if_pos zq7, if_pos zq7, rdO, impl_code _ _ k zq7, Option.bind_some, w3]
   unfold storeStep
   by_cases hc : codeV (oAt l i).f1 (oAt l i).f2 = 0
   · rw [if_pos hc, if_pos hc]
     have hko : kindOk (oAt l i).f1 = true := by
      cases hb : kindOk (oAt l i).f1 with
      | true => rfl
      | false =>
        unfold codeV at hc
        rw [hb, if_neg zq13] at hc
        exact absurd hc zq13
     obtain ⟨n, hn2, h1, h3⟩ := kind_nat hko
     have hiv : impl_idOf.f k (oAt l i).f1 (oAt l i).f2 = some (idV (oAt l i).f1 (oAt l i).f2) := by
      rw [hn2]
      exact impl_id n h1 h3 _ (by have := oSmall_at hs hi; omega) k (by have := oSmall_at hs hi; omega)
     rw [hiv, Option.bind_some]
     by_cases hid : idV (oAt l i).f1 (oAt l i).f2 = (oAt l i).f0
     · rw [if_pos hid, if_pos (by rw [hid])]
       by_cases h0 : 0 < i
       · have w1 : wrap64 ((i : Int) - 1) = ((i - 1 : Nat) : Int) := (wrap_in zq7 zq7).trans zq7
         rw [if_pos zq7, w1, if_pos zq7, if_pos zq7, rdO, toList_eq, toList_eq]
         by_cases hl : lessB (oAt l (i - 1)).f0 (oAt l i).f0 = true
         · rw [if_pos (show Op.bytesLess _ _ = true from hl), if_neg (fun z => z.2 hl)]
         · rw [if_neg (show ¬ Op.bytesLess _ _ = true from hl), if_pos ⟨h0, hl⟩]
       · rw [if_neg zq7, if_neg (fun z => h0 z.1)]
     · rw [if_neg hid, if_neg (fun z => hid (toList_inj z).symm)]
   · rw [if_neg hc, if_neg hc]
 · simp only [impl_StoreFault.l0]
   rw [if_neg zq7]
open Go.Proofs.YtkjgnnhpjcofiaaGreatDoor.PX.X (lessB lessB_irrefl lessB_trans lessB_eq bsAt bsHit)
set_option linter.unusedVariables false
abbrev oId (x : IObj) : ByteArray := x.f0
theorem storeStep_ok {l : List IObj} {i : Nat} {r : Int} (h : storeStep l i () = .inl r) : r ≠ 0 := by
 unfold storeStep at h
 by_cases hc : codeV (oAt l i).f1 (oAt l i).f2 = 0
 · rw [if_pos hc] at h
   by_cases hid : idV (oAt l i).f1 (oAt l i).f2 = (oAt l i).f0
   · rw [if_pos hid] at h
     split at h
     · rw [← Sum.inl.inj h]; decide
     · cases h
   · rw [if_neg hid] at h
     rw [← Sum.inl.inj h]; decide
 · rw [if_neg hc] at h
   rw [← Sum.inl.inj h]
   exact hc
theorem storeRun_ok (l : List IObj) : ∀ (d i : Nat), run (storeStep l) (fun _ => (0 : Int)) d i () = 0 → ∀ j, i ≤ j → j < i + d → storeStep l j () = .inr ()
 | 0, i, _, j, h1, h2 => absurd h2 zq7
 | d + 1, i, h, j, h1, h2 => by
   cases hs : storeStep l i () with
   | inl r =>
     rw [run_out hs] at h
     exact absurd h (storeStep_ok hs)
   | inr u =>
     rw [run_on hs] at h
     rcases Nat.lt_or_ge i j with h3 | h3
     · exact storeRun_ok l d (i + 1) h j zq7 zq7
     · have : j = i := by omega
       subst this
       exact hs
theorem storeStep_in {l : List IObj} {i : Nat} (h : storeStep l i () = .inr ()) : codeV (oAt l i).f1 (oAt l i).f2 = 0 ∧ idV (oAt l i).f1 (oAt l i).f2 = (oAt l i).f0 ∧ (0 < i → lessB (oAt l (i - 1)).f0 (oAt l i).f0 = true) := by
 unfold storeStep at h
 by_cases hc : codeV (oAt l i).f1 (oAt l i).f2 = 0
 · rw [if_pos hc] at h
   by_cases hid : idV (oAt l i).f1 (oAt l i).f2 = (oAt l i).f0
   · rw [if_pos hid] at h
     refine ⟨hc, hid, fun h0 => ?_⟩
     by_cases hl : lessB (oAt l (i - 1)).f0 (oAt l i).f0 = true
     · exact hl
     · rw [if_pos ⟨h0, hl⟩] at h
       cases h
   · rw [if_neg hid] at h
     cases h
 · rw [if_neg hc] at h
   cases h
theorem rising_of_next {l : List IObj} (h : ∀ i, 0 < i → i < l.length → lessB (oAt l (i - 1)).f0 (oAt l i).f0 = true) : rising oId l := by
 have key : ∀ (d i : Nat), i + d + 1 < l.length → lessB (oAt l i).f0 (oAt l (i + d + 1)).f0 = true := by
  intro d
  induction d with
  | zero => intro i hi; exact h (i + 1) zq7 hi
  | succ d ih => intro i hi; exact lessB_trans (ih i zq7) (h (i + (d + 1) + 1) zq7 hi)
 intro i j x y hij hx hy
 have hj := (List.getElem?_eq_some_iff.1 hy).1
 have e1 : oAt l i = x := by unfold oAt; rw [List.getD_eq_getElem?_getD, hx]; rfl
 have e2 : oAt l j = y := by unfold oAt; rw [List.getD_eq_getElem?_getD, hy]; rfl
 have := key (j - i - 1) i zq7
 rw [show i + (j - i - 1) + 1 = j by omega, e1, e2] at this
 exact this
theorem storeV_ok {l : List IObj} (h : storeV l = 0) : l.length ≤ 200 ∧ (∀ i, i < l.length → codeV (oAt l i).f1 (oAt l i).f2 = 0 ∧ idV (oAt l i).f1 (oAt l i).f2 = (oAt l i).f0) ∧ rising oId l := by
 unfold storeV at h
 by_cases hn : l.length > 200
 · rw [if_pos hn] at h
   exact absurd h zq13
 rw [if_neg hn] at h
 have hall := storeRun_ok l l.length 0 h
 refine ⟨by omega, fun i hi => ?_, rising_of_next fun i h0 hi => (storeStep_in (hall i (Nat.zero_le _) zq7)).2.2 h0⟩
 have := storeStep_in (hall i (Nat.zero_le _) zq7)
 exact ⟨this.1, this.2.1⟩
theorem spec_find_from (l : List IObj) (s : ByteArray) (hr : rising oId l) (hl : l.length ≤ 1048576) : ∀ (d i : Nat), i + d = l.length → i ≤ cnt (lessK oId s) l → ∀ k, d < k →
 spec_l5Find.l0 k l s (i : Int) = some (match l[cnt (lessK oId s) l]? with | some x => if x.f0 = s then (cnt (lessK oId s) l : Int) else -1 | none => -1)
 | 0, i, hi, hm, k, hk => by
   obtain ⟨k, rfl⟩ : ∃ m, k = m + 1 := ⟨k - 1, by omega⟩
   have hle := cnt_le (lessK oId s) l
   have hn : l[cnt (lessK oId s) l]? = none := List.getElem?_eq_none zq7
   rw [spec_l5Find.l0, if_neg zq7, hn]
 | d + 1, i, hi, hm, k, hk => by
   obtain ⟨k, rfl⟩ : ∃ m, k = m + 1 := ⟨k - 1, by omega⟩
   have w3 : wrap64 ((i : Int) + 1) = ((i + 1 : Nat) : Int) := (wrap_in zq7 zq7).trans zq7
   have hlt : i < l.length := by omega
   have hx : l[i]? = some (oAt l i) := by
    rw [List.getElem?_eq_getElem hlt]
    congr 1
    unfold oAt
    rw [List.getD_eq_getElem?_getD, List.getElem?_eq_getElem hlt, Option.getD_some]
   rw [spec_l5Find.l0, if_pos zq7, if_pos zq7, rdO, w3]
   rcases Nat.lt_or_ge i (cnt (lessK oId s) l) with h1 | h1
   · have hless := (cut_rising oId hr s i _ hx).2 h1
     rw [if_neg (fun z => by
      have e : (oAt l i).f0 = s := toList_inj z
      unfold lessK oId at hless
      rw [e, lessB_irrefl] at hless
      cases hless)]
     exact spec_find_from l s hr hl d (i + 1) zq7 h1 k zq7
   · have e : i = cnt (lessK oId s) l := by omega
     rw [← e, hx]
     by_cases he : (oAt l i).f0 = s
     · rw [if_pos (by rw [he])]
       show _ = some (if (oAt l i).f0 = s then _ else _)
       rw [if_pos he]
     · rw [if_neg (fun z => he (toList_inj z))]
       show _ = some (if (oAt l i).f0 = s then _ else _)
       rw [if_neg he]
       have rest : ∀ (d i : Nat), i + d = l.length → cnt (lessK oId s) l < i → ∀ k, d < k → spec_l5Find.l0 k l s (i : Int) = some (-1) := by
        intro d
        induction d with
        | zero =>
          intro i hi _ k hk
          obtain ⟨k, rfl⟩ : ∃ m, k = m + 1 := ⟨k - 1, by omega⟩
          rw [spec_l5Find.l0, if_neg zq7]
        | succ d ih =>
          intro i hi hci k hk
          obtain ⟨k, rfl⟩ : ∃ m, k = m + 1 := ⟨k - 1, by omega⟩
          have w4 : wrap64 ((i : Int) + 1) = ((i + 1 : Nat) : Int) := (wrap_in zq7 zq7).trans zq7
          have hlt : i < l.length := by omega
          have hx : l[i]? = some (oAt l i) := by
           rw [List.getElem?_eq_getElem hlt]
           congr 1
           unfold oAt
           rw [List.getD_eq_getElem?_getD, List.getElem?_eq_getElem hlt, Option.getD_some]
          rw [spec_l5Find.l0, if_pos zq7, if_pos zq7, rdO, w4, if_neg (fun z => by
           have := key_at oId hr s i _ hx (toList_inj z)
           omega)]
          exact ih (i + 1) zq7 zq7 k zq7
       exact rest d (i + 1) zq7 zq7 k zq7
end Go.Proofs.YtkjgnnhpjcofiaaGreatDoorX

namespace Go.Proofs.YtkjgnnhpjcofiaaGreatDoor.PX.X
open Go Go.RowKit Go.Lib Go.Proofs.YtkjgnnhpjcofiaaGreatDoorW.PrintWords Go.Proofs.YtkjgnnhpjcofiaaGreatDoor.PX Go.Proofs.YtkjgnnhpjcofiaaGreatDoorX
set_option linter.unusedVariables false
def okO (l : List IObj) : Prop := l.length ≤ 200 ∧ (∀ x ∈ l, x.f2.size ≤ 1048576) ∧ ∀ i, i < l.length → ∀ j, j < l.length → i < j → lessB (oId (oAt l i)) (oId (oAt l j)) = true
instance (l : List IObj) : Decidable (okO l) := by unfold okO; infer_instance
theorem oAt_get {l : List IObj} {i : Nat} {x : IObj} (h : l[i]? = some x) : oAt l i = x := by unfold oAt; rw [List.getD_eq_getElem?_getD, h]; rfl
theorem okO_rising {l : List IObj} (h : okO l) : rising oId l := fun i j x y hij hx hy => by
 have := h.2.2 i (List.getElem?_eq_some_iff.1 hx).1 j (List.getElem?_eq_some_iff.1 hy).1 hij
 rwa [oAt_get hx, oAt_get hy] at this
end Go.Proofs.YtkjgnnhpjcofiaaGreatDoor.PX.X
namespace Go.Proofs.YtkjgnnhpjcofiaaGreatDoorX
open Go Go.RowKit Go.Proofs.YtkjgnnhpjcofiaaGreatDoorW.PrintWords Go.Proofs.YtkjgnnhpjcofiaaGreatDoor.PX
open Go.Proofs.YtkjgnnhpjcofiaaGreatDoor.PX.X (okO oAt_get)
theorem ok_of_store {l : List IObj} (hs : oSmall l) (h : storeV l = 0) : okO l := by
 obtain ⟨h1, _, h3⟩ := storeV_ok h
 refine ⟨h1, hs, fun i hi j hj hij => ?_⟩
 have ei : l[i]? = some l[i] := List.getElem?_eq_getElem hi
 have ej : l[j]? = some l[j] := List.getElem?_eq_getElem hj
 rw [oAt_get ei, oAt_get ej]
 exact h3 i j _ _ hij ei ej
end Go.Proofs.YtkjgnnhpjcofiaaGreatDoorX
