/- Texts of this claim set one behind another by wip/bundle.py: XDecS, XDecA. -/
import Derived.Test.YtpnoghcdfbmpoaaGreatDoorBLT45
import Derived.Test.YtpnoghcdfbmpoaaGreatDoorBLT42
import Derived.Test.YtpnoghcdfbmpoaaGreatDoorBLT39
import Derived.Test.YtpnoghcdfbmpoaaGreatDoorBLT16
namespace Go.Proofs.YtpnoghcdfbmpoaaGreatDoorX
open Go Go.RowKit Go.Proofs.YtpnoghcdfbmpoaaGreatDoorW.PrintWords Go.Proofs.YtpnoghcdfbmpoaaGreatDoor.PX
set_option linter.unusedVariables false
set_option linter.unusedSimpArgs false
abbrev Cm := ByteArray × List ByteArray × Int × ByteArray
def wTree : List UInt8 := [116, 114, 101, 101]
def wParent : List UInt8 := [112, 97, 114, 101, 110, 116]
def wTime : List UInt8 := [116, 105, 109, 101]
def wNote : List UInt8 := [110, 111, 116, 101]
def wordAt (n i : Nat) : List UInt8 := if i + 1 = n then wNote else if i + 2 = n then wTime else if i = 0 then wTree else wParent
def uncV (r : Cm) (b : Bool) : ByteArray × List ByteArray × Int × ByteArray × Bool := (r.1, r.2.1, r.2.2.1, r.2.2.2, b)
theorem wordAt_len (n i : Nat) : (wordAt n i).length ≤ 10 := by
 unfold wordAt
 (repeat' split) <;> decide
theorem mk_inj {a b : List UInt8} (h : mkB a = mkB b) : a = b := by
 have := congrArg (fun s : ByteArray => s.data.toList) h
 exact this
theorem spec_round (L : List ByteArray) (n i : Nat) (x : List UInt8) (c : Cm) (hn : 3 ≤ n) (hN : n ≤ 1048576) (hi : i < n) (hL : L.length = n) (hx : rdOf ByteArray.empty L (i : Int) = mkB x) (hne : x ≠ []) (hs : x.length ≤ 1048576) (hc : c.2.1.length ≤ 1048576) (k : Nat) :
 spec_l6Uncommit.l0 (k + 5) L (n : Int) (i : Int) c.1 c.2.1 c.2.2.1 c.2.2.2 = match lnP (wordAt n i) x with
  | none => some (uncV c false)
  | some t => if wordAt n i = wTree then spec_l6Uncommit.l0 k L (n : Int) ((i + 1 : Nat) : Int) (mkB t) c.2.1 c.2.2.1 c.2.2.2
    else if wordAt n i = wParent then spec_l6Uncommit.l0 k L (n : Int) ((i + 1 : Nat) : Int) c.1 (c.2.1 ++ [mkB t]) c.2.2.1 c.2.2.2
    else if wordAt n i = wTime then ((spec_l6Time.f k (mkB t)).bind fun z => if z.2 = true then spec_l6Uncommit.l0 k L (n : Int) ((i + 1 : Nat) : Int) c.1 c.2.1 z.1 c.2.2.2 else some (uncV c false))
    else spec_l6Uncommit.l0 k L (n : Int) ((i + 1 : Nat) : Int) c.1 c.2.1 c.2.2.1 (mkB t) := by
 have w1 : wrap64 ((n : Int) - 1) = ((n - 1 : Nat) : Int) := wrap_down n zq7 zq7
 have w2 : wrap64 ((n : Int) - 2) = ((n - 2 : Nat) : Int) := (wrap_in zq7 zq7).trans zq7
 have w3 : wrap64 ((i : Int) + 1) = ((i + 1 : Nat) : Int) := (wrap_in zq7 zq7).trans zq7
 have key : ∀ w0 : List UInt8, (if i + 1 = n then wNote else if i + 2 = n then wTime else w0) = wordAt n i → spec_l6Uncommit.j1 (k + 4) L (n : Int) (i : Int) (if x.getLast? = some 10 then mkB x.dropLast else (⟨#[]⟩ : ByteArray)) (decide (x.getLast? = some 10)) (mkB w0) c.1 c.2.1 c.2.2.1 c.2.2.2 = spec_l6Uncommit.j3 (k + 2) L (n : Int) (i : Int) (if x.getLast? = some 10 then mkB x.dropLast else (⟨#[]⟩ : ByteArray)) (decide (x.getLast? = some 10)) (mkB (wordAt n i)) c.1 c.2.1 c.2.2.1 c.2.2.2 := by
  intro w0 hw
  rw [← hw, spec_l6Uncommit.j1, w2]
  by_cases h2 : i + 2 = n
  · rw [if_pos zq7, spec_l6Uncommit.j2, w1, if_neg zq7, if_neg (show ¬ i + 1 = n by omega), if_pos h2]
    rfl
  · rw [if_neg zq7, spec_l6Uncommit.j2, w1]
    by_cases h1 : i + 1 = n
    · rw [if_pos zq7, if_pos h1]
      rfl
    · rw [if_neg zq7, if_neg h1, if_neg h2]
 have hstart : spec_l6Uncommit.l0 (k + 5) L (n : Int) (i : Int) c.1 c.2.1 c.2.2.1 c.2.2.2 = spec_l6Uncommit.j3 (k + 2) L (n : Int) (i : Int) (if x.getLast? = some 10 then mkB x.dropLast else (⟨#[]⟩ : ByteArray)) (decide (x.getLast? = some 10)) (mkB (wordAt n i)) c.1 c.2.1 c.2.2.1 c.2.2.2 := by
  rw [spec_l6Uncommit.l0, if_pos zq7, if_pos zq7, if_pos zq7, hx, spec_unline x hne hs, Option.bind_some]
  have hp : (if x.getLast? = some 10 then (mkB x.dropLast, true) else ((⟨#[]⟩ : ByteArray), false)) = ((if x.getLast? = some 10 then mkB x.dropLast else (⟨#[]⟩ : ByteArray)), decide (x.getLast? = some 10)) := by
   by_cases h : x.getLast? = some 10
   · rw [if_pos h, if_pos h, decide_eq_true h]
   · rw [if_neg h, if_neg h, decide_eq_false h]
  rw [hp]
  by_cases h0 : i = 0
  · rw [if_pos zq7]
    exact key wTree (by unfold wordAt; rw [if_pos h0])
  · rw [if_neg zq7]
    exact key wParent (by unfold wordAt; rw [if_neg h0])
 rw [hstart, spec_l6Uncommit.j3]
 unfold lnP
 by_cases h : x.getLast? = some 10
 · rw [if_pos h, if_pos h, decide_eq_true h, spec_after x.dropLast (wordAt n i) (by rw [List.length_dropLast]; omega) (wordAt_len n i), Option.bind_some, if_pos rfl]
   by_cases h2 : x.dropLast.take ((wordAt n i).length + 1) = wordAt n i ++ [32]
   · rw [if_pos h2, if_pos h2]
     simp only [Bool.not_true]
     rw [spec_l6Uncommit.j4, if_neg zq9, w3, toList_eq, mkB_list]
     generalize x.dropLast.drop ((wordAt n i).length + 1) = t
     generalize wordAt n i = w
     show (if w = wTree then _ else if w = wParent then _ else if w = wTime then _ else _) = _
     by_cases c1 : w = wTree
     · rw [if_pos c1, if_pos c1]
     · rw [if_neg c1, if_neg c1]
       by_cases c2 : w = wParent
       · rw [if_pos c2, if_pos c2, if_pos zq7]
       · rw [if_neg c2, if_neg c2]
         by_cases c3 : w = wTime
         · rw [if_pos c3, if_pos c3]
           rfl
         · rw [if_neg c3, if_neg c3]
   · rw [if_neg h2, if_neg h2]
     simp only [Bool.not_false]
     rw [spec_l6Uncommit.j4, if_pos rfl]
     rfl
 · rw [if_neg h, if_neg h, decide_eq_false h]
   obtain ⟨z, hz⟩ : ∃ z, spec_l6After.f (⟨#[]⟩ : ByteArray) (mkB (wordAt n i)) = some z := ⟨_, spec_after [] (wordAt n i) zq9 (wordAt_len n i)⟩
   rw [hz, Option.bind_some, if_neg zq9, spec_l6Uncommit.j4, if_pos rfl]
   rfl
theorem spec_end (L : List ByteArray) (n : Nat) (c : Cm) (k : Nat) : spec_l6Uncommit.l0 (k + 1) L (n : Int) (n : Int) c.1 c.2.1 c.2.2.1 c.2.2.2 = (spec_CommitFault.f k c.1 c.2.1 c.2.2.1 c.2.2.2).bind fun z => some (uncV c (z == 0)) := by
 rw [spec_l6Uncommit.l0, if_neg zq7]
 rfl
def parL (ps : List ByteArray) : List (List UInt8) := ps.map fun p => lineL wParent p.data.toList
def LN (c : Cm) (u : Nat) : List (List UInt8) := (lineL wTree c.1.data.toList :: parL c.2.1) ++ [lineL wTime (Lib.decDigits u), lineL wNote c.2.2.2.data.toList]
structure TX (n i : Nat) (c : Cm) (s : List (List UInt8)) : Prop where
 z : i = 0 → s = [] ∧ c.2.1 = []
 p : 1 ≤ i → i + 2 ≤ n → s = lineL wTree c.1.data.toList :: parL c.2.1
 t : i + 1 = n → ∃ u : Nat, c.2.2.1 = (u : Int) ∧ s = (lineL wTree c.1.data.toList :: parL c.2.1) ++ [lineL wTime (Lib.decDigits u)]
 e : i = n → ∃ u : Nat, c.2.2.1 = (u : Int) ∧ s = LN c u
def faultV (c : Cm) : Int := (impl_CommitFault.f (c.2.2.2.size + 40) c.1 c.2.1 c.2.2.1 c.2.2.2).getD 0
theorem fault_all (c : Cm) (hn : c.2.2.2.size ≤ 1048576) (k : Nat) (hk : c.2.2.2.size + 40 ≤ k) : spec_CommitFault.f k c.1 c.2.1 c.2.2.1 c.2.2.2 = some (faultV c) ∧ impl_CommitFault.f k c.1 c.2.1 c.2.2.1 c.2.2.2 = some (faultV c) := by
 obtain ⟨r0, _, h0⟩ := commitFault_both c.1 c.2.1 c.2.2.1 c.2.2.2 hn (c.2.2.2.size + 40) (Nat.le_refl _)
 obtain ⟨r, h1, h2⟩ := commitFault_both c.1 c.2.1 c.2.2.1 c.2.2.2 hn k hk
 have hv : faultV c = r0 := by unfold faultV; rw [h0]; rfl
 have hm := at_rounds (g := fun k => impl_CommitFault.f k c.1 c.2.1 c.2.2.1 c.2.2.2) (fun k => impl_CommitFault.mono _ _ _ _ k) hk h0
 have e : r = r0 := Option.some.inj (h2.symm.trans hm)
 rw [hv, ← e]
 exact ⟨h1, h2⟩
theorem rd_map (P : List (List UInt8)) (i : Nat) (h : i < P.length) : rdOf ByteArray.empty (P.map mkB) (i : Int) = mkB P[i] := by
 show (P.map mkB).getD ((i : Int)).toNat _ = _
 rw [Int.toNat_natCast, List.getD_eq_getElem?_getD, List.getElem?_map, List.getElem?_eq_getElem h]
 rfl
theorem wt (n : Nat) (hn : 3 ≤ n) : wordAt n 0 = wTree := by
 unfold wordAt
 rw [if_neg zq7, if_neg zq7, if_pos rfl]
theorem wp (n i : Nat) (h0 : 0 < i) (hi : i + 2 < n) : wordAt n i = wParent := by
 unfold wordAt
 rw [if_neg zq7, if_neg zq7, if_neg zq7]
theorem wm (n i : Nat) (hi : i + 2 = n) : wordAt n i = wTime := by
 unfold wordAt
 rw [if_neg zq7, if_pos hi]
theorem wn (n i : Nat) (hi : i + 1 = n) : wordAt n i = wNote := by
 unfold wordAt
 rw [if_pos hi]
theorem spec_sound (P : List (List UInt8)) (n : Nat) (hP : P.length = n) (hn : 3 ≤ n) (hN : n ≤ 1048576) (hne : ∀ p ∈ P, p ≠ []) (hs : ∀ p ∈ P, p.length ≤ 1048576) :
 ∀ (d i : Nat) (c : Cm), i + d = n → c.2.1.length ≤ i → c.2.2.2.size ≤ 1048576 → TX n i c (P.take i) → ∀ k, d * 6 + 1048700 < k →
 ∃ r b, spec_l6Uncommit.l0 k (P.map mkB) (n : Int) (i : Int) c.1 c.2.1 c.2.2.1 c.2.2.2 = some (uncV r b) ∧ (b = true → ∃ u : Nat, r.2.2.1 = (u : Int) ∧ P = LN r u ∧ faultV r = 0 ∧ r.2.2.2.size ≤ 1048576)
 | 0, i, c, hi, hc, hz, hT, k, hk => by
   obtain ⟨k, rfl⟩ : ∃ m, k = m + 1 := ⟨k - 1, by omega⟩
   have e : i = n := by omega
   subst e
   rw [spec_end, (fault_all c hz k zq7).1, Option.bind_some]
   refine ⟨c, _, rfl, fun hb => ?_⟩
   obtain ⟨u, h1, h2⟩ := hT.e rfl
   rw [List.take_of_length_le zq7] at h2
   exact ⟨u, h1, h2, eq_of_beq hb, hz⟩
 | d + 1, i, c, hi, hc, hz, hT, k, hk => by
   obtain ⟨k, rfl⟩ : ∃ m, k = m + 5 := ⟨k - 5, by omega⟩
   have hlt : i < P.length := by omega
   have hmem := List.getElem_mem hlt
   have htk : P.take (i + 1) = P.take i ++ [P[i]] := List.take_succ_eq_append_getElem hlt
   rw [spec_round (P.map mkB) n i P[i] c hn hN zq7 (by rw [List.length_map]; exact hP) (rd_map P i hlt) (hne _ hmem) (hs _ hmem) zq7]
   cases ht : lnP (wordAt n i) P[i] with
   | none => exact ⟨c, false, rfl, fun z => absurd z zq9⟩
   | some t =>
     have hx := lnP_sound ht
     have hsz : t.length ≤ 1048576 := by
      have := hs _ hmem
      rw [hx] at this
      unfold lineL at this
      simp only [List.length_append, List.length_cons, List.length_nil] at this
      omega
     rw [hx] at htk
     simp only
     by_cases h0 : i = 0
     · subst h0
       rw [wt n hn, if_pos rfl]
       rw [wt n hn] at htk
       obtain ⟨e1, e2⟩ := hT.z rfl
       refine spec_sound P n hP hn hN hne hs d 1 (mkB t, c.2.1, c.2.2.1, c.2.2.2) zq7 (show c.2.1.length ≤ 1 by rw [e2]; exact Nat.zero_le _) hz ⟨fun z => by omega, fun _ _ => ?_, fun z => by omega, fun z => by omega⟩ k zq7
       rw [htk, e1, e2]
       rfl
     · by_cases h1 : i + 1 = n
       · have w1 : wordAt n i = wNote := wn n i h1
         rw [w1] at htk ⊢
         rw [if_neg zq9, if_neg zq9, if_neg zq9]
         obtain ⟨u, e1, e2⟩ := hT.t h1
         refine spec_sound P n hP hn hN hne hs d (i + 1) (c.1, c.2.1, c.2.2.1, mkB t) zq7 (Nat.le_succ_of_le hc) (by show (mkB t).size ≤ _; rw [size_mkB]; exact hsz) ⟨fun z => by omega, fun _ z => by omega, fun z => by omega, fun _ => ⟨u, e1, ?_⟩⟩ k zq7
         rw [htk, e2]
         unfold LN
         rw [List.append_assoc]
         rfl
       · by_cases h2 : i + 2 = n
         · have w1 : wordAt n i = wTime := wm n i h2
           rw [w1] at htk ⊢
           rw [if_neg zq9, if_neg zq9, if_pos rfl]
           obtain ⟨v, b, hv, hb⟩ := spec_time (mkB t) k zq7
           rw [hv, Option.bind_some]
           cases b with
           | false => exact ⟨c, false, rfl, fun z => absurd z zq9⟩
           | true =>
             obtain ⟨u, e1, _, e2⟩ := hb rfl
             rw [if_pos rfl]
             refine spec_sound P n hP hn hN hne hs d (i + 1) (c.1, c.2.1, v, c.2.2.2) zq7 (Nat.le_succ_of_le hc) hz ⟨fun z => by omega, fun _ z => by omega, fun _ => ⟨u, e1, ?_⟩, fun z => by omega⟩ k zq7
             rw [htk, hT.p zq7 zq7, mk_inj e2]
         · have w1 : wordAt n i = wParent := wp n i zq7 zq7
           rw [w1] at htk ⊢
           rw [if_neg zq9, if_pos rfl]
           refine spec_sound P n hP hn hN hne hs d (i + 1) (c.1, c.2.1 ++ [mkB t], c.2.2.1, c.2.2.2) zq7 (by rw [List.length_append, List.length_singleton]; omega) hz ⟨fun z => by omega, fun _ _ => ?_, fun z => by omega, fun z => by omega⟩ k zq7
           rw [htk, hT.p zq7 zq7]
           unfold parL
           rw [List.map_append]
           rfl
theorem LN_len (c : Cm) (u : Nat) : (LN c u).length = c.2.1.length + 3 := by
 unfold LN parL
 simp
theorem LN_par (c : Cm) (u j : Nat) (hj : j < c.2.1.length) : (LN c u)[j + 1]? = some (lineL wParent (c.2.1[j]).data.toList) := by
 unfold LN parL
 rw [List.getElem?_append_left (by simp; omega), List.getElem?_cons_succ, List.getElem?_map, List.getElem?_eq_getElem hj]
 rfl
theorem LN_time (c : Cm) (u : Nat) : (LN c u)[c.2.1.length + 1]? = some (lineL wTime (Lib.decDigits u)) := by
 have hl : (lineL wTree c.1.data.toList :: parL c.2.1).length = c.2.1.length + 1 := by unfold parL; simp
 unfold LN
 rw [List.getElem?_append_right zq7, hl, Nat.sub_self]
 rfl
theorem LN_note (c : Cm) (u : Nat) : (LN c u)[c.2.1.length + 2]? = some (lineL wNote c.2.2.2.data.toList) := by
 have hl : (lineL wTree c.1.data.toList :: parL c.2.1).length = c.2.1.length + 1 := by unfold parL; simp
 unfold LN
 rw [List.getElem?_append_right zq7, hl, show c.2.1.length + 2 - (c.2.1.length + 1) = 1 by omega]
 rfl
theorem mk_data (s : ByteArray) : mkB s.data.toList = s := (mkB_of rfl).symm
theorem spec_complete (c : Cm) (u : Nat) (hu : c.2.2.1 = (u : Int)) (h9 : u ≤ 1000000000) (hps : c.2.1.length ≤ 3) (hs : ∀ p ∈ LN c u, p.length ≤ 1048576) (hz : c.2.2.2.size ≤ 1048576) (hf : faultV c = 0) (k : Nat) (hk : 1048800 < k) :
 spec_l6Uncommit.l0 k ((LN c u).map mkB) ((LN c u).length : Int) 0 (⟨#[]⟩ : ByteArray) [] 0 (⟨#[]⟩ : ByteArray) = some (uncV c true) := by
 have hlen := LN_len c u
 have hne : ∀ p ∈ LN c u, p ≠ [] := fun p hp => by
  unfold LN parL at hp
  rcases List.mem_append.1 hp with hp | hp
  · rcases List.mem_cons.1 hp with rfl | hp
    · exact line_ne _ _
    · obtain ⟨q, _, rfl⟩ := List.mem_map.1 hp
      exact line_ne _ _
  · rcases List.mem_cons.1 hp with rfl | hp
    · exact line_ne _ _
    · rw [List.mem_singleton.1 hp]
      exact line_ne _ _
 obtain ⟨n, hn⟩ : ∃ n, (LN c u).length = n := ⟨_, rfl⟩
 have round : ∀ (i : Nat) (t : List UInt8) (s : Cm) (k : Nat) (hi : i < (LN c u).length), (LN c u)[i]? = some (lineL (wordAt n i) t) → s.2.1.length ≤ 1048576 → _ :=
  fun i t s k hi he hc => (spec_round ((LN c u).map mkB) n i (LN c u)[i] s zq7 zq7 zq7 (by rw [List.length_map]; exact hn) (rd_map _ i hi) (hne _ (List.getElem_mem hi)) (hs _ (List.getElem_mem hi)) hc k).trans (by rw [(List.getElem_eq_iff hi).2 he, lnP_line])
 have hpar : ∀ (d j : Nat), j + d = c.2.1.length → ∀ k, spec_l6Uncommit.l0 (k + 5 * d) ((LN c u).map mkB) (n : Int) ((j + 1 : Nat) : Int) c.1 (c.2.1.take j) 0 (⟨#[]⟩ : ByteArray) = spec_l6Uncommit.l0 k ((LN c u).map mkB) (n : Int) ((c.2.1.length + 1 : Nat) : Int) c.1 c.2.1 0 (⟨#[]⟩ : ByteArray) := by
  intro d
  induction d with
  | zero =>
    intro j hj k
    have e : j = c.2.1.length := by omega
    subst e
    rw [List.take_length]
    rfl
  | succ d ih =>
    intro j hj k
    have hj2 : j < c.2.1.length := by omega
    have w1 : wordAt n (j + 1) = wParent := wp n (j + 1) zq7 zq7
    have h := round (j + 1) (c.2.1[j]).data.toList (c.1, c.2.1.take j, 0, ⟨#[]⟩) (k + 5 * d) zq7 (by rw [w1]; exact LN_par c u j hj2) (by show (c.2.1.take j).length ≤ _; rw [List.length_take]; omega)
    rw [w1] at h
    simp only at h
    rw [if_neg zq9, if_pos trivial, mk_data] at h
    have ht : c.2.1.take (j + 1) = c.2.1.take j ++ [c.2.1[j]] := List.take_succ_eq_append_getElem hj2
    rw [← ht] at h
    rw [show k + 5 * (d + 1) = k + 5 * d + 5 by omega]
    exact h.trans (ih (j + 1) zq7 k)
 obtain ⟨q, hq⟩ : ∃ q, k = q + 5 + 5 + 5 * c.2.1.length + 5 := ⟨k - 15 - 5 * c.2.1.length, by omega⟩
 rw [hn, hq]
 have s0 := round 0 c.1.data.toList (⟨#[]⟩, [], 0, ⟨#[]⟩) (q + 5 + 5 + 5 * c.2.1.length) zq7 (by rw [wt n zq7]; rfl) (Nat.zero_le _)
 rw [wt n zq7] at s0
 simp only at s0
 rw [if_pos trivial, mk_data] at s0
 refine s0.trans ?_
 refine (hpar c.2.1.length 0 zq7 (q + 5 + 5)).trans ?_
 have w1 : wordAt n (c.2.1.length + 1) = wTime := wm n _ zq7
 have s1 := round (c.2.1.length + 1) (Lib.decDigits u) (c.1, c.2.1, 0, ⟨#[]⟩) (q + 5) zq7 (by rw [w1]; exact LN_time c u) (by show c.2.1.length ≤ _; omega)
 rw [w1] at s1
 simp only at s1
 rw [if_neg zq9, if_neg zq9, if_pos trivial, spec_time_ok u h9 (q + 5) zq7, Option.bind_some, if_pos rfl] at s1
 refine s1.trans ?_
 have w2 : wordAt n (c.2.1.length + 2) = wNote := wn n _ zq7
 have s2 := round (c.2.1.length + 2) c.2.2.2.data.toList (c.1, c.2.1, (u : Int), ⟨#[]⟩) q zq7 (by rw [w2]; exact LN_note c u) (by show c.2.1.length ≤ _; omega)
 rw [w2] at s2
 simp only at s2
 rw [if_neg zq9, if_neg zq9, if_neg zq9, mk_data] at s2
 refine s2.trans ?_
 obtain ⟨q, rfl⟩ : ∃ m, q = m + 1 := ⟨q - 1, by omega⟩
 have e3 : c.2.1.length + 2 + 1 = n := by omega
 rw [e3]
 have s3 := spec_end ((LN c u).map mkB) n c q
 rw [(fault_all c hz q zq7).1, hf, Option.bind_some, hu] at s3
 exact s3
end Go.Proofs.YtpnoghcdfbmpoaaGreatDoorX
