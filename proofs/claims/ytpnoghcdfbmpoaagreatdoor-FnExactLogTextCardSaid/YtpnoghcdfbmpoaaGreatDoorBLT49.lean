/- Texts of this claim set one behind another by wip/bundle.py: XDecI, XDecV. -/
import Derived.Test.YtpnoghcdfbmpoaaGreatDoorBLT46
import Derived.Test.YtpnoghcdfbmpoaaGreatDoorBLT47
namespace Go.Proofs.YtpnoghcdfbmpoaaGreatDoorX
open Go Go.RowKit Go.Proofs.YtpnoghcdfbmpoaaGreatDoorW.PrintWords Go.Proofs.YtpnoghcdfbmpoaaGreatDoor.PX
open Go.Proofs.YtpnoghcdfbmpoaaGreatDoor.PX.X (parV cutA cutB trimL nameW restW decStep decL decL_snoc)
set_option linter.unusedVariables false
set_option linter.unusedSimpArgs false
theorem commit_l0 (tree : ByteArray) (ps : List ByteArray) (time : Int) (note : ByteArray) (hn : note.size ≤ 1048576) (hl : ps.length ≤ 3) :
 ∀ (d i k : Nat), ps.length - i = d → i ≤ ps.length → note.size + 20 + 5 * d < k → ∃ r, impl_CommitFault.l0 k ps (ps.length : Int) (i : Int) tree ps time note = some r ∧ (r = 0 ∨ r = 1 ∨ r = 2 ∨ r = 3 ∨ r = 5) ∧ (r = 0 → (∀ j, i ≤ j → j < ps.length → isIdOfM 3 (ps.getD j ByteArray.empty).data.toList = true) ∧ noteM note = true) := by
 intro d
 induction d with
 | zero =>
   intro i k hd hi hk
   obtain ⟨k, rfl⟩ : ∃ m, k = m + 1 := ⟨k - 1, by omega⟩
   simp only [impl_CommitFault.l0]
   rw [if_neg zq7, within_in, Option.bind_some, impl_note note hn k zq7]
   generalize (decide (0 ≤ time) && decide (time ≤ 1000000000)) = wb
   unfold impl_codeIf.f
   cases wb <;> cases noteM note <;> simp [firstCode_two _ _ k (show 3 ≤ k by omega)] <;> (intro j h1 h2; omega)
 | succ d ih =>
   intro i k hd hi hk
   obtain ⟨k, rfl⟩ : ∃ m, k = m + 1 := ⟨k - 1, by omega⟩
   simp only [impl_CommitFault.l0]
   have g2 : impl_isIdOf.f 3 (rdOf ByteArray.empty ps (i : Int)) = _ := impl_isIdOf_tells 3 zq7 _
   rw [if_pos zq7, if_pos zq7, if_pos zq7, g2, Option.bind_some]
   cases hid : isIdOfM 3 (rdOf ByteArray.empty ps (i : Int)).data.toList with
   | false =>
     rw [if_neg zq9]
     exact ⟨_, rfl, by decide, fun z => absurd z zq9⟩
   | true =>
     rw [if_pos rfl, if_pos zq7]
     obtain ⟨b, hb, hbi⟩ := contains_tells (ps.take (i : Int).toNat) (rdOf ByteArray.empty ps (i : Int)) (by rw [List.length_take]; omega) k (by rw [List.length_take]; omega)
     rw [hb, Option.bind_some]
     cases b with
     | true =>
       rw [if_pos rfl]
       exact ⟨_, rfl, by decide, fun z => absurd z zq9⟩
     | false =>
       rw [if_neg zq9, wrap_in zq7 zq7]
       obtain ⟨r, h1, h2, h3⟩ := ih (i + 1) k zq7 zq7 zq7
       refine ⟨r, h1, h2, fun z => ⟨fun j hj1 hj2 => ?_, (h3 z).2⟩⟩
       by_cases e : j = i
       · subst e
         rw [rdOf_nat] at hid
         exact hid
       · exact (h3 z).1 j zq7 hj2
theorem fault_tells (c : Cm) (hn : c.2.2.2.size ≤ 1048576) : (faultV c = 0 ∨ faultV c = 1 ∨ faultV c = 2 ∨ faultV c = 3 ∨ faultV c = 5) ∧ (faultV c = 0 → isIdOfM 2 c.1.data.toList = true ∧ (∀ p ∈ c.2.1, isIdOfM 3 p.data.toList = true) ∧ noteM c.2.2.2 = true ∧ c.2.1.length ≤ 3 ∧ ∃ u : Nat, c.2.2.1 = (u : Int) ∧ u ≤ 1000000000) := by
 have hf := (fault_all c hn (c.2.2.2.size + 40) (Nat.le_refl _)).2
 have hz := fun h => commit_zero c.1 c.2.1 c.2.2.1 c.2.2.2 hn (c.2.2.2.size + 40) (Nat.le_refl _) h
 generalize faultV c = r at hf ⊢
 have hf2 := hf
 unfold impl_CommitFault.f at hf
 have g2 : impl_isIdOf.f 2 c.1 = _ := impl_isIdOf_tells 2 zq7 _
 rw [g2, Option.bind_some] at hf
 cases hid : isIdOfM 2 c.1.data.toList with
 | false =>
   rw [hid, if_neg zq9] at hf
   rw [← Option.some.inj hf]
   exact ⟨by decide, fun z => absurd z zq9⟩
 | true =>
   rw [hid, if_pos rfl] at hf
   by_cases h3 : (c.2.1.length : Int) > 3
   · rw [if_pos h3] at hf
     rw [← Option.some.inj hf]
     exact ⟨by decide, fun z => absurd z zq9⟩
   · rw [if_neg h3] at hf
     obtain ⟨q, h4, h5, h6⟩ := commit_l0 c.1 c.2.1 c.2.2.1 c.2.2.2 hn zq7 c.2.1.length 0 (c.2.2.2.size + 40) zq7 zq7 zq7
     have e : q = r := Option.some.inj (h4.symm.trans hf)
     subst e
     refine ⟨h5, fun z => ?_⟩
     subst z
     obtain ⟨t1, t2, t3⟩ := hz hf2
     refine ⟨rfl, fun p hp => ?_, (h6 rfl).2, by omega, c.2.2.1.toNat, by omega, by omega⟩
     obtain ⟨j, hj, rfl⟩ := List.getElem_of_mem hp
     have := (h6 rfl).1 j (Nat.zero_le _) hj
     rw [List.getD_eq_getElem?_getD, List.getElem?_eq_getElem hj] at this
     exact this
theorem id_ten {kind : Nat} {l : List UInt8} (h : isIdOfM kind l = true) : (10 : UInt8) ∉ l ∧ l.length = 5 := by
 unfold isIdOfM at h
 rw [Bool.and_eq_true] at h
 have h5 : l.length = 5 := by
  by_cases e : l.length = 5
  · exact e
  · rw [isIdM_len e] at h
    cases h.1
 match l, h5, h.1 with
 | [a, b, c, d, e], _, h1 =>
   refine ⟨fun hm => ?_, rfl⟩
   unfold isIdM hexD at h1
   simp only [Bool.and_eq_true, Bool.or_eq_true, decide_eq_true_eq, beq_iff_eq] at h1
   simp only [List.mem_cons, List.not_mem_nil, or_false] at hm
   rcases hm with rfl | rfl | rfl | rfl | rfl
   · exact absurd h1.1 zq9
   all_goals (have t10 : (10 : UInt8).toNat = 10 := rfl; omega)
theorem note_run (s : ByteArray) : ∀ (d i : Nat), run (noteStep s true) (fun _ => true) d i () = true → ∀ j, i ≤ j → j < i + d → ¬ (bt s (j : Int) < 32 ∨ bt s (j : Int) > 126)
 | 0, i, _, j, h1, h2 => absurd h2 zq7
 | d + 1, i, h, j, h1, h2 => by
   by_cases hb : bt s (i : Int) < 32 ∨ bt s (i : Int) > 126
   · rw [run_out (r := false) (by unfold noteStep; rw [if_pos hb])] at h
     cases h
   · rw [run_on (s' := ()) (by unfold noteStep; rw [if_neg hb])] at h
     by_cases e : j = i
     · subst e; exact hb
     · exact note_run s d (i + 1) h j zq7 zq7
theorem note_ten {s : ByteArray} (h : noteM s = true) : (10 : UInt8) ∉ s.data.toList ∧ s.size ≤ 60 := by
 unfold noteM at h
 by_cases h60 : s.size > 60
 · rw [if_pos h60] at h
   cases h
 · rw [if_neg h60] at h
   refine ⟨fun hm => ?_, by omega⟩
   obtain ⟨j, hj, he⟩ := List.getElem_of_mem hm
   have hlen : s.data.toList.length = s.size := by simp
   have := note_run s s.size 0 h j (Nat.zero_le _) zq7
   rw [bt_nat, List.getD_eq_getElem?_getD, List.getElem?_eq_getElem hj, Option.getD_some, he] at this
   exact this (.inl zq9)
theorem dig_ten (u : Nat) : (10 : UInt8) ∉ Lib.decDigits u := fun hm => by
 have h := of_decide_eq_true ((dec_val u u (Nat.le_refl _)).2.1 _ hm)
 exact absurd h zq9
structure Right (c : Cm) (u : Nat) : Prop where
 time : c.2.2.1 = (u : Int)
 max : u ≤ 1000000000
 pars : c.2.1.length ≤ 3
 tree : (10 : UInt8) ∉ c.1.data.toList ∧ c.1.data.toList.length = 5
 ids : ∀ p ∈ c.2.1, (10 : UInt8) ∉ p.data.toList ∧ p.data.toList.length = 5
 note : (10 : UInt8) ∉ c.2.2.2.data.toList ∧ c.2.2.2.size ≤ 60
theorem right_of {c : Cm} (hn : c.2.2.2.size ≤ 1048576) (h : faultV c = 0) : ∃ u, Right c u := by
 obtain ⟨h1, h2, h3, h4, u, h5, h6⟩ := (fault_tells c hn).2 h
 exact ⟨u, h5, h6, h4, id_ten h1, fun p hp => id_ten (h2 p hp), note_ten h3⟩
theorem ten_line {w t : List UInt8} (hw : (10 : UInt8) ∉ w) (ht : (10 : UInt8) ∉ t) : (10 : UInt8) ∉ w ++ 32 :: t := fun h => by
 rcases List.mem_append.1 h with h | h
 · exact hw h
 · rcases List.mem_cons.1 h with h | h
   · exact absurd h zq9
   · exact ht h
theorem ln_parL : ∀ (ps : List ByteArray) (r : List UInt8), (∀ p ∈ ps, (10 : UInt8) ∉ p.data.toList) → lnL ((parL ps).flatten ++ r) = parL ps ++ lnL r
 | [], r, _ => rfl
 | p :: ps, r, h => by
   show lnL ((lineL wParent p.data.toList ++ (parL ps).flatten) ++ r) = lineL wParent p.data.toList :: (parL ps ++ lnL r)
   rw [List.append_assoc]
   unfold lineL
   rw [ln_line _ _ (ten_line zq9 (h p List.mem_cons_self)), ln_parL ps r (fun q hq => h q (List.mem_cons_of_mem _ hq))]
theorem ln_LN {c : Cm} {u : Nat} (h : Right c u) : lnL (LN c u).flatten = LN c u := by
 have e : (LN c u).flatten = lineL wTree c.1.data.toList ++ ((parL c.2.1).flatten ++ (lineL wTime (Lib.decDigits u) ++ (lineL wNote c.2.2.2.data.toList ++ []))) := by
  unfold LN
  simp
 rw [e]
 unfold LN
 unfold lineL
 rw [ln_line _ _ (ten_line zq9 h.tree.1), ln_parL _ _ (fun p hp => (h.ids p hp).1), ln_line _ _ (ten_line zq9 (dig_ten u)), ln_line _ _ (ten_line zq9 h.note.1)]
 simp [lnL]
theorem addP_list : ∀ (ps : List ByteArray) (out : ByteArray), (addP out ps).data.toList = out.data.toList ++ (parL ps).flatten
 | [], out => by
   show out.data.toList = out.data.toList ++ []
   rw [List.append_nil]
 | p :: ps, out => by
   rw [addP, addP_list ps]
   show _ = out.data.toList ++ (lineL wParent p.data.toList ++ (parL ps).flatten)
   unfold lineL
   simp only [ByteArray.data_append, Array.toList_append, List.append_assoc]
   rfl
theorem text_list (c : Cm) (u : Nat) : (finC (addP (headC c.1) c.2.1) u c.2.2.2).data.toList = (LN c u).flatten := by
 have e : (LN c u).flatten = lineL wTree c.1.data.toList ++ ((parL c.2.1).flatten ++ (lineL wTime (Lib.decDigits u) ++ (lineL wNote c.2.2.2.data.toList ++ []))) := by
  unfold LN
  simp
 rw [e]
 unfold finC
 simp only [ByteArray.data_append, Array.toList_append, List.append_assoc]
 rw [addP_list]
 unfold headC lineL
 simp only [ByteArray.data_append, Array.toList_append, List.append_assoc]
 rfl
theorem index_sp32 (w t : List UInt8) (hw : (32 : UInt8) ∉ w) : Lib.index (w ++ 32 :: t) [32] = (w.length : Int) := by
 rw [Lib.index_one]
 have hge := Lib.indexByte_ge (w ++ 32 :: t) 32
 have hat : (w ++ 32 :: t)[w.length]? = some 32 := by
  rw [List.getElem?_append_right (Nat.le_refl _), Nat.sub_self]
  rfl
 rcases Int.lt_or_le (Lib.indexByte (w ++ 32 :: t) 32) 0 with h | h
 · exact absurd hat (Lib.indexByte_none zq7 w.length)
 · obtain ⟨o, ho⟩ : ∃ o : Nat, Lib.indexByte (w ++ 32 :: t) 32 = (o : Int) := ⟨_, (Int.toNat_of_nonneg h).symm⟩
   obtain ⟨h1, h2⟩ := Lib.indexByte_some ho
   rw [ho]
   have h3 : ¬ w.length < o := fun z => h2 _ z hat
   have h4 : ¬ o < w.length := fun z => by
    rw [List.getElem?_append_left z, List.getElem?_eq_getElem z] at h1
    exact hw (by rw [← Option.some.inj h1]; exact List.getElem_mem z)
   omega
theorem word_line (w t : List UInt8) (hw : (32 : UInt8) ∉ w) (hl : (lineL w t).length ≤ 1048576) : nameW (mkB (lineL w t)) = mkB w ∧ restW (mkB (lineL w t)) = mkB t := by
 have h0 := impl_trim (lineL w t) (line_ne w t) hl
 have h1 : cutL (lineL w t) = w ++ 32 :: t := by
  unfold cutL
  rw [if_pos (show (lineL w t).getLast? = some 10 from List.getLast?_concat)]
  exact (List.dropLast_concat : ((w ++ 32 :: t) ++ [10]).dropLast = w ++ 32 :: t)
 have h2 : trimL (mkB (lineL w t)) = mkB (w ++ 32 :: t) := by
  unfold trimL
  rw [h0, h1]
  rfl
 have h3 := index_sp32 w t hw
 unfold nameW restW cutA cutB
 rw [h2, mkB_list]
 unfold Lib.cut
 rw [h3, if_pos zq7, Int.toNat_natCast]
 constructor
 · show mkB (List.take w.length (w ++ 32 :: t)) = mkB w
   rw [List.take_left]
 · show mkB (List.drop (w.length + 1) (w ++ 32 :: t)) = mkB t
   rw [← List.drop_drop, List.drop_left]
   rfl
theorem dec_par : ∀ (ps : List ByteArray) (t : ByteArray) (qs : List ByteArray), (∀ p ∈ ps, p.data.toList.length = 5) → ((parL ps).map mkB).foldl decStep (t, qs, 0, ⟨#[]⟩) = (t, qs ++ ps, 0, ⟨#[]⟩)
 | [], t, qs, _ => by
   rw [List.append_nil]
   rfl
 | p :: ps, t, qs, h => by
   have h5 := h p List.mem_cons_self
   obtain ⟨e1, e2⟩ := word_line wParent p.data.toList zq9 (by unfold lineL; simp only [List.length_append, List.length_cons, List.length_nil, h5]; decide)
   show ((parL ps).map mkB).foldl decStep (decStep (t, qs, 0, ⟨#[]⟩) (mkB (lineL wParent p.data.toList))) = _
   have hst : decStep (t, qs, 0, ⟨#[]⟩) (mkB (lineL wParent p.data.toList)) = (t, qs ++ [p], 0, ⟨#[]⟩) := by
    unfold decStep
    rw [e1, e2, mk_data, if_neg zq9, if_pos (show mkB wParent = ⟨#[112, 97, 114, 101, 110, 116]⟩ from rfl)]
   rw [hst, dec_par ps t (qs ++ [p]) (fun q hq => h q (List.mem_cons_of_mem _ hq)), List.append_assoc]
   rfl
theorem dec_LN {c : Cm} {u : Nat} (h : Right c u) : decL ((LN c u).map mkB) = c := by
 have hdl := dec_len 9 u (by have := h.max; omega)
 have hnl : c.2.2.2.data.toList.length ≤ 60 := by have := h.note.2; simpa using this
 obtain ⟨a1, a2⟩ := word_line wTree c.1.data.toList zq9 (by unfold lineL; simp only [List.length_append, List.length_cons, List.length_nil, h.tree.2]; decide)
 obtain ⟨b1, b2⟩ := word_line wTime (Lib.decDigits u) zq9 (by unfold lineL wTime; simp only [List.length_append, List.length_cons, List.length_nil]; omega)
 obtain ⟨d1, d2⟩ := word_line wNote c.2.2.2.data.toList zq9 (by unfold lineL wNote; simp only [List.length_append, List.length_cons, List.length_nil]; omega)
 have e : (LN c u).map mkB = mkB (lineL wTree c.1.data.toList) :: ((parL c.2.1).map mkB ++ [mkB (lineL wTime (Lib.decDigits u)), mkB (lineL wNote c.2.2.2.data.toList)]) := by
  unfold LN
  simp
 have s0 : decStep (⟨#[]⟩, [], 0, ⟨#[]⟩) (mkB (lineL wTree c.1.data.toList)) = (c.1, [], 0, ⟨#[]⟩) := by
  unfold decStep
  rw [a1, a2, mk_data, if_pos (show mkB wTree = ⟨#[116, 114, 101, 101]⟩ from rfl)]
 have s1 : decStep (c.1, c.2.1, 0, ⟨#[]⟩) (mkB (lineL wTime (Lib.decDigits u))) = (c.1, c.2.1, (u : Int), ⟨#[]⟩) := by
  unfold decStep
  rw [b1, b2, if_neg zq9, if_neg zq9, if_pos (show mkB wTime = ⟨#[116, 105, 109, 101]⟩ from rfl), mkB_list, parV_dec u h.max]
 have s2 : decStep (c.1, c.2.1, (u : Int), ⟨#[]⟩) (mkB (lineL wNote c.2.2.2.data.toList)) = (c.1, c.2.1, (u : Int), c.2.2.2) := by
  unfold decStep
  rw [d1, d2, mk_data, if_neg zq9, if_neg zq9, if_neg zq9, if_pos (show mkB wNote = ⟨#[110, 111, 116, 101]⟩ from rfl)]
 unfold decL
 rw [e, List.foldl_cons, s0, List.foldl_append, dec_par c.2.1 c.1 [] (fun p hp => (h.ids p hp).2), List.nil_append, List.foldl_cons, s1, List.foldl_cons, s2, ← h.time]
 rfl
theorem dec_note (L : List ByteArray) (hs : ∀ x ∈ L, x.size ≤ 1048576) : ∀ c : Cm, c.2.2.2.size ≤ 1048576 → (L.foldl decStep c).2.2.2.size ≤ 1048576 := by
 induction L with
 | nil => exact fun c h => h
 | cons x L ih =>
   intro c h
   refine ih (fun y hy => hs y (List.mem_cons_of_mem _ hy)) (decStep c x) ?_
   have h1 := X.rest_size x (by have := hs x List.mem_cons_self; omega)
   have h2 := hs x List.mem_cons_self
   unfold decStep
   (repeat' split) <;> first | exact h | (show (restW x).size ≤ _; omega)
open Go.Proofs.YtpnoghcdfbmpoaaGreatDoor.PX.X (decL)
set_option linter.unusedVariables false
set_option linter.unusedSimpArgs false
theorem lines_small (D : ByteArray) (hD : D.size ≤ 1048576) : (linesB D).length ≤ 1048576 ∧ ∀ x ∈ linesB D, x.size ≤ 1048576 := by
 have hl : D.data.toList.length = D.size := by simp
 unfold linesB
 refine ⟨by rw [List.length_map]; have := ln_len D.data.toList; omega, fun x hx => ?_⟩
 obtain ⟨p, hp, rfl⟩ := List.mem_map.1 hx
 have := ln_size D.data.toList p hp
 rw [size_mkB]
 omega
def decV (D : ByteArray) : Cm := decL (linesB D)
def goodD (D : ByteArray) : Prop := faultV (decV D) = 0 ∧ ∃ u, Right (decV D) u ∧ D.data.toList = (LN (decV D) u).flatten
theorem decV_note (D : ByteArray) (hD : D.size ≤ 1048576) : (decV D).2.2.2.size ≤ 1048576 := dec_note (linesB D) (lines_small D hD).2 _ (Nat.zero_le _)
theorem impl_dec (D : ByteArray) (hD : D.size ≤ 1048576) (k : Nat) (hk : 1048900 < k) : ∃ b, impl_decodeCommit.f k D = some (uncV (decV D) b) ∧ (b = true ↔ goodD D) := by
 obtain ⟨h1, h2⟩ := lines_small D hD
 have hn := decV_note D hD
 have hc : (decide ((linesB D).length ≤ 1048576) && (linesB D).all fun x => decide (x.size ≤ 1048576)) = true := by
  rw [Bool.and_eq_true, decide_eq_true_eq, List.all_eq_true]
  exact ⟨h1, fun x hx => decide_eq_true (h2 x hx)⟩
 unfold impl_decodeCommit.f
 rw [impl_lines D zq7, Option.bind_some, if_pos hc]
 show ∃ b, impl_decodeCommit.g k D (decV D) = _ ∧ _
 unfold impl_decodeCommit.g
 rw [(fault_all (decV D) hn k zq7).2, Option.bind_some]
 by_cases h0 : faultV (decV D) = 0
 · obtain ⟨u, hr⟩ := right_of hn h0
   have ht := impl_commit_text (decV D).1 (decV D).2.1 u (decV D).2.2.2 (by have := hr.tree.2; simp at this; omega) hn (fun p hp => by have := (hr.ids p hp).2; simp at this; omega) hr.max hr.pars k zq7
   rw [if_pos h0, hr.time, ht, Option.bind_some]
   refine ⟨_, by rw [← hr.time]; rfl, ?_⟩
   rw [decide_eq_true_eq]
   have htl := text_list (decV D) u
   constructor
   · intro e
     rw [e] at htl
     exact ⟨h0, u, hr, htl⟩
   · rintro ⟨_, u2, hr2, e⟩
     have eu : u2 = u := by have := hr.time.symm.trans hr2.time; omega
     rw [eu, ← htl] at e
     exact (mk_data _).symm.trans ((congrArg mkB e.symm).trans (mk_data D))
 · rw [if_neg h0, if_pos]
   · exact ⟨false, rfl, ⟨fun z => absurd z zq9, fun z => absurd z.1 h0⟩⟩
   · have := (fault_tells (decV D) hn).1
     rcases this with h | h | h | h | h
     · exact absurd h h0
     · exact .inl h
     · exact .inr (.inl h)
     · exact .inr (.inr (.inl h))
     · exact .inr (.inr (.inr h))
theorem spec_dec (D : ByteArray) (hD : D.size ≤ 1048576) (k : Nat) (hk : 9000000 < k) : ∃ r b, spec_l6Uncommit.f k D = some (uncV r b) ∧ (b = true ↔ goodD D) ∧ (b = true → r = decV D) := by
 have hl : D.data.toList.length = D.size := by simp
 have hlen := ln_len D.data.toList
 have hflat := ln_flat D.data.toList
 have hP : linesB D = (lnL D.data.toList).map mkB := rfl
 have back : ∀ u, goodD D → Right (decV D) u → lnL D.data.toList = LN (decV D) u := by
  rintro u ⟨_, u2, hr2, e⟩ hr
  have eu : u2 = u := by have := hr.time.symm.trans hr2.time; omega
  rw [e, eu]
  exact ln_LN hr
 unfold spec_l6Uncommit.f
 rw [spec_lines D zq7 k zq7, Option.bind_some, hP, List.length_map]
 by_cases h3 : ((lnL D.data.toList).length : Int) < 3
 · rw [if_pos h3]
   refine ⟨(⟨#[]⟩, [], 0, ⟨#[]⟩), false, rfl, ⟨fun z => absurd z zq9, fun z => ?_⟩, fun z => absurd z zq9⟩
   obtain ⟨u, hr⟩ := right_of (decV_note D hD) z.1
   have := back u z hr
   rw [this, LN_len] at h3
   omega
 · rw [if_neg h3]
   obtain ⟨r, b, h1, h2⟩ := spec_sound (lnL D.data.toList) _ rfl zq7 zq7 (lnL_ne _) (fun p hp => by have := ln_size _ p hp; omega) (lnL D.data.toList).length 0 (⟨#[]⟩, [], 0, ⟨#[]⟩) zq7 (Nat.zero_le _) (Nat.zero_le _) ⟨fun _ => ⟨rfl, rfl⟩, fun z => by omega, fun z => by omega, fun z => by omega⟩ k zq7
   have key : b = true → r = decV D ∧ goodD D := by
    intro hb
    obtain ⟨u, e1, e2, e3, e4⟩ := h2 hb
    obtain ⟨u2, hr⟩ := right_of e4 e3
    have eu : u2 = u := by have := hr.time.symm.trans e1; omega
    rw [eu] at hr
    have hd : decV D = r := by
     unfold decV
     rw [hP, e2]
     exact dec_LN hr
    refine ⟨hd.symm, ?_⟩
    unfold goodD
    rw [hd]
    exact ⟨e3, u, hr, by rw [← e2]; exact hflat.symm⟩
   refine ⟨r, b, h1, ⟨fun hb => (key hb).2, fun z => ?_⟩, fun hb => (key hb).1⟩
   obtain ⟨u, hr⟩ := right_of (decV_note D hD) z.1
   have hb := back u z hr
   have hc := spec_complete (decV D) u hr.time hr.max hr.pars (fun p hp => by rw [← hb] at hp; have := ln_size _ p hp; omega) (decV_note D hD) z.1 k zq7
   rw [← hb] at hc
   have := Option.some.inj (h1.symm.trans hc)
   unfold uncV at this
   simp only [Prod.mk.injEq] at this
   exact this.2.2.2.2
end Go.Proofs.YtpnoghcdfbmpoaaGreatDoorX
