/- Texts of this claim set one behind another by wip/bundle.py: XDecN. -/
import Derived.Test.YtpnoghcdfbmpoaaGreatDoorBLT21
import Derived.Test.YtpnoghcdfbmpoaaGreatDoorBLT33
import Derived.Test.YtpnoghcdfbmpoaaGreatDoorBLT15
namespace Go.Proofs.YtpnoghcdfbmpoaaGreatDoorX
open Go Go.RowKit Go.Proofs.YtpnoghcdfbmpoaaGreatDoorW.PrintWords Go.Proofs.YtpnoghcdfbmpoaaGreatDoor.PX
open Go.Proofs.YtpnoghcdfbmpoaaGreatDoor.PX.X (parV)
set_option linter.unusedVariables false
set_option linter.unusedSimpArgs false
def valL : Nat → List UInt8 → Nat
 | a, [] => a
 | a, c :: r => valL (a * 10 + (c.toNat - 48)) r
def digB (c : UInt8) : Bool := decide (48 ≤ c.toNat ∧ c.toNat ≤ 57)
theorem valL_append : ∀ (l r : List UInt8) (a : Nat), valL a (l ++ r) = valL (valL a l) r
 | [], r, a => rfl
 | c :: l, r, a => valL_append l r _
theorem valL_mono : ∀ (l : List UInt8) (a : Nat), a ≤ valL a l
 | [], a => Nat.le_refl _
 | c :: l, a => Nat.le_trans zq7 (valL_mono l (a * 10 + (c.toNat - 48)))
theorem dig_nat {d : Nat} (h : d < 10) : (UInt8.ofNat (48 + d)).toNat = 48 + d := by
 rw [UInt8.toNat_ofNat']
 exact Nat.mod_eq_of_lt zq7
theorem dig_ok {d : Nat} (h : d < 10) : digB (UInt8.ofNat (48 + d)) = true := by
 unfold digB
 rw [dig_nat h]
 exact decide_eq_true zq7
theorem dec_val : ∀ (n u : Nat), u ≤ n → valL 0 (Lib.decDigits u) = u ∧ (∀ c ∈ Lib.decDigits u, digB c = true) ∧ Lib.decDigits u ≠ []
 | n, u, h => by
   by_cases h10 : u < 10
   · rw [Lib.decDigits_one h10]
     refine ⟨?_, ?_, by simp⟩
     · show 0 * 10 + ((UInt8.ofNat (48 + u)).toNat - 48) = u
       rw [dig_nat h10]
       omega
     · intro c hc
       rw [List.mem_singleton.1 hc]
       exact dig_ok h10
   · obtain ⟨n, rfl⟩ : ∃ m, n = m + 1 := ⟨n - 1, by omega⟩
     obtain ⟨h1, h2, h3⟩ := dec_val n (u / 10) zq7
     have e : Lib.decDigits u = Lib.decDigits (u / 10) ++ [UInt8.ofNat (48 + u % 10)] := by
      rw [Lib.decDigits, dif_neg h10]
     rw [e]
     refine ⟨?_, ?_, by simp⟩
     · rw [valL_append, h1]
       show u / 10 * 10 + ((UInt8.ofNat (48 + u % 10)).toNat - 48) = u
       rw [dig_nat zq7]
       omega
     · intro c hc
       rcases List.mem_append.1 hc with hc | hc
       · exact h2 c hc
       · rw [List.mem_singleton.1 hc]
         exact dig_ok zq7
theorem dec_len : ∀ (n u : Nat), u < 10 ^ (n + 1) → (Lib.decDigits u).length ≤ n + 1
 | 0, u, h => by
   rw [Lib.decDigits_one zq7]
   exact Nat.le_refl _
 | n + 1, u, h => by
   by_cases h10 : u < 10
   · rw [Lib.decDigits_one h10]
     show 1 ≤ _
     omega
   · have e : Lib.decDigits u = Lib.decDigits (u / 10) ++ [UInt8.ofNat (48 + u % 10)] := by
      rw [Lib.decDigits, dif_neg h10]
     have hn : u / 10 < 10 ^ (n + 1) := by
      rw [Nat.pow_succ] at h
      generalize 10 ^ (n + 1) = p at h
      omega
     have := dec_len n (u / 10) hn
     rw [e, List.length_append, List.length_singleton]
     omega
theorem parse_M (M : Nat) : ∀ (l : List UInt8) (a : Nat), (∀ c ∈ l, digB c = true) → valL a l ≤ M → valL a l < 1844674407370955162 → Lib.parseUintM M a l = .ok (valL a l)
 | [], a, _, _, _ => rfl
 | c :: r, a, hd, hM, hb => by
   have hc := of_decide_eq_true (hd c List.mem_cons_self)
   have hm := valL_mono r (a * 10 + (c.toNat - 48))
   have hM' : valL (a * 10 + (c.toNat - 48)) r ≤ M := hM
   have hb' : valL (a * 10 + (c.toNat - 48)) r < 1844674407370955162 := hb
   rw [Lib.parseUintM, if_pos hc, if_neg zq7, if_neg zq7]
   exact parse_M M r _ (fun x hx => hd x (List.mem_cons_of_mem _ hx)) hM hb
theorem parV_dec (u : Nat) (hu : u ≤ 1000000000) : parV (Lib.decDigits u) = (u : Int) := by
 obtain ⟨h1, h2, h3⟩ := dec_val u u (Nat.le_refl _)
 have hp : Lib.parseUintB 64 (Lib.decDigits u) = .ok u := by
  unfold Lib.parseUintB
  rw [if_neg h3, parse_M _ _ _ h2 (by rw [h1]; omega) (by rw [h1]; omega), h1]
 have hi : Lib.parseIntB 64 (Lib.decDigits u) = .ok (u : Int) := by
  cases hl : Lib.decDigits u with
  | nil => exact absurd hl h3
  | cons c r =>
    rw [hl] at h2 hp
    have hc := of_decide_eq_true (h2 c List.mem_cons_self)
    rw [Lib.parseIntB_plain 64 c r zq7 zq7, hp]
    unfold Lib.signlessC
    simp only
    rw [if_neg zq7]
 unfold parV
 rw [hi]
def timeL : Nat → List UInt8 → Option Nat
 | a, [] => some a
 | a, c :: r => if digB c = true then timeL (a * 10 + (c.toNat - 48)) r else none
theorem timeL_dec : ∀ (l : List UInt8) (a : Nat), (∀ c ∈ l, digB c = true) → timeL a l = some (valL a l)
 | [], a, _ => rfl
 | c :: r, a, h => by
   rw [timeL, if_pos (h c List.mem_cons_self)]
   exact timeL_dec r _ (fun x hx => h x (List.mem_cons_of_mem _ hx))
theorem timeL_lt : ∀ (l : List UInt8) (a n v : Nat), a < 10 ^ n → timeL a l = some v → v < 10 ^ (n + l.length)
 | [], a, n, v, ha, h => by
   rw [← Option.some.inj h]
   exact ha
 | c :: r, a, n, v, ha, h => by
   rw [timeL] at h
   by_cases hc : digB c = true
   · rw [if_pos hc] at h
     have hd := of_decide_eq_true hc
     have hn : a * 10 + (c.toNat - 48) < 10 ^ (n + 1) := by
      rw [Nat.pow_succ]
      generalize 10 ^ n = p at ha
      omega
     have := timeL_lt r _ (n + 1) v hn h
     rw [List.length_cons]
     rwa [show n + (r.length + 1) = n + 1 + r.length by omega]
   · rw [if_neg hc] at h
     cases h
theorem time_loop (t : ByteArray) (h10 : t.size ≤ 10) : ∀ (d i a k : Nat), i + d = t.size → a < 10 ^ i → d + 20 < k →
 spec_l6Time.l0 k t (a : Int) (i : Int) = match timeL a (t.data.toList.drop i) with | none => some (0, false) | some v => some ((v : Int), (mkB (Lib.decDigits v)).toList == t.toList)
 | 0, i, a, k, hi, ha, hk => by
   obtain ⟨k, rfl⟩ : ∃ m, k = m + 2 := ⟨k - 2, by omega⟩
   have hp : 10 ^ i ≤ 10 ^ 10 := Nat.pow_le_pow_right zq9 zq7
   have hlen : t.data.toList.length = t.size := by simp
   rw [spec_l6Time.l0, if_neg zq7, List.drop_eq_nil_of_le zq7, spec_digits k a (Nat.lt_of_lt_of_le ha (Nat.pow_le_pow_right zq9 zq7)) zq7]
   rfl
 | d + 1, i, a, k, hi, ha, hk => by
   obtain ⟨k, rfl⟩ : ∃ m, k = m + 1 := ⟨k - 1, by omega⟩
   have g1 : i + 1 + d = t.size := by omega
   have g2 : d + 20 < k := by omega
   have hp : 10 ^ i ≤ 10 ^ 10 := Nat.pow_le_pow_right zq9 zq7
   have hlen : t.data.toList.length = t.size := by simp
   have hlt : i < t.data.toList.length := by omega
   rw [spec_l6Time.l0, if_pos zq7, if_pos zq7, bt_nat, List.getD_eq_getElem?_getD, List.getElem?_eq_getElem hlt, Option.getD_some, List.drop_eq_getElem_cons hlt, timeL]
   generalize t.data.toList[i] = c
   unfold digB
   by_cases h1 : (c.toNat : Int) < 48
   · rw [if_pos h1, decide_eq_false zq7]
     rfl
   · rw [if_neg h1]
     by_cases h2 : (c.toNat : Int) > 57
     · rw [if_pos h2, decide_eq_false zq7]
       rfl
     · rw [if_neg h2, decide_eq_true zq7, if_pos rfl]
       have e1 : wrap64 ((a : Int) * 10) = (a : Int) * 10 := wrap_in zq7 zq7
       have e2 : ((c.toNat : Int) - 48) % 256 = (c.toNat : Int) - 48 := by omega
       have e3 : wrap64 ((a : Int) * 10 + ((c.toNat : Int) - 48)) = ((a * 10 + (c.toNat - 48) : Nat) : Int) := (wrap_in zq7 zq7).trans zq7
       have e4 : wrap64 ((i : Int) + 1) = ((i + 1 : Nat) : Int) := (wrap_in zq7 zq7).trans zq7
       rw [e1, e2, e3, e4]
       have e5 : a * 10 + (c.toNat - 48) < 10 ^ (i + 1) := by
        rw [Nat.pow_succ]
        clear e1 e2 e3 e4 hp
        generalize 10 ^ i = p at ha
        omega
       exact time_loop t h10 d (i + 1) _ k g1 e5 g2
theorem spec_time (t : ByteArray) (k : Nat) (hk : 40 < k) : ∃ v b, spec_l6Time.f k t = some (v, b) ∧ (b = true → ∃ u : Nat, v = (u : Int) ∧ u < 10000000000 ∧ t = mkB (Lib.decDigits u)) := by
 obtain ⟨q, rfl⟩ : ∃ q, k = q + 1 := ⟨k - 1, by omega⟩
 unfold spec_l6Time.f
 by_cases h1 : (t.size : Int) < 1
 · rw [if_pos h1, spec_l6Time.j0, if_pos rfl]
   exact ⟨0, false, rfl, fun z => absurd z zq9⟩
 · rw [if_neg h1, spec_l6Time.j0]
   by_cases h2 : (t.size : Int) > 10
   · rw [decide_eq_true h2, if_pos rfl]
     exact ⟨0, false, rfl, fun z => absurd z zq9⟩
   · rw [decide_eq_false h2, if_neg zq9]
     have h := time_loop t zq7 t.size 0 0 q zq7 zq9 zq7
     rw [List.drop_zero] at h
     rw [show spec_l6Time.l0 q t 0 0 = _ from h]
     cases hv : timeL 0 t.data.toList with
     | none => exact ⟨0, false, rfl, fun z => absurd z zq9⟩
     | some v =>
       refine ⟨v, _, rfl, fun hb => ⟨v, rfl, ?_, ?_⟩⟩
       · have h3 := timeL_lt t.data.toList 0 0 v zq9 hv
         have hlen : t.data.toList.length = t.size := by simp
         have hp : 10 ^ (0 + t.data.toList.length) ≤ 10 ^ 10 := Nat.pow_le_pow_right zq9 zq7
         omega
       · exact (toList_inj (eq_of_beq hb)).symm
theorem spec_time_ok (u : Nat) (hu : u ≤ 1000000000) (k : Nat) (hk : 40 < k) : spec_l6Time.f k (mkB (Lib.decDigits u)) = some ((u : Int), true) := by
 obtain ⟨h1, h2, h3⟩ := dec_val u u (Nat.le_refl _)
 have hl := dec_len 9 u zq7
 have hpos := List.length_pos_iff.2 h3
 have hz := mkB_len (Lib.decDigits u)
 obtain ⟨q, rfl⟩ : ∃ q, k = q + 1 := ⟨k - 1, by omega⟩
 unfold spec_l6Time.f
 rw [if_neg zq7, spec_l6Time.j0, decide_eq_false zq7, if_neg zq9]
 have h := time_loop (mkB (Lib.decDigits u)) zq7 (mkB (Lib.decDigits u)).size 0 0 q zq7 zq9 zq7
 rw [List.drop_zero, mkB_list, timeL_dec _ _ h2, h1] at h
 rw [show spec_l6Time.l0 q (mkB (Lib.decDigits u)) 0 0 = _ from h]
 simp
end Go.Proofs.YtpnoghcdfbmpoaaGreatDoorX
