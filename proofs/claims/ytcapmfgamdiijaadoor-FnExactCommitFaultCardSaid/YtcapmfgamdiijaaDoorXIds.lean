/- Names that are reckoned, by their form: the program's IsId and the reference's, and whose kind they are of. -/
import Derived.Test.YtcapmfgamdiijaaDoorXRun
import Derived.Test.YtcapmfgamdiijaaDoorPXx36
import Derived.Test.YtcapmfgamdiijaaDoorPXx38
import Derived.Test.YtcapmfgamdiijaaDoorPXx58
import Derived.Test.YtcapmfgamdiijaaDoorPXx59
namespace Go.Proofs.YtcapmfgamdiijaaDoorX
open Go Go.RowKit Go.Proofs.YtcapmfgamdiijaaDoorW.PrintWords Go.Proofs.YtcapmfgamdiijaaDoor.PX

def hexD (b : UInt8) : Bool := decide (48 ≤ b.toNat ∧ b.toNat ≤ 57 ∨ 97 ≤ b.toNat ∧ b.toNat ≤ 102)
/-- A letter of a kind and four digits of base 16. -/
def isIdM : List UInt8 → Bool
  | [a, b, c, d, e] => (a == 98 || a == 116 || a == 99) && (hexD b && (hexD c && (hexD d && hexD e)))
  | _ => false

theorem five {s : ByteArray} (h : s.size = 5) : ∃ a b c d e, s.data.toList = [a, b, c, d, e] := by
  rw [size_list] at h
  match hl : s.data.toList, h with
  | [a, b, c, d, e], _ => exact ⟨a, b, c, d, e, rfl⟩

theorem isIdM_len {l : List UInt8} (h : l.length ≠ 5) : isIdM l = false := by
  match l, h with
  | [], _ => rfl
  | [_], _ => rfl
  | [_, _], _ => rfl
  | [_, _, _], _ => rfl
  | [_, _, _, _], _ => rfl
  | [_, _, _, _, _], h => exact absurd rfl h
  | _ :: _ :: _ :: _ :: _ :: _ :: _, _ => rfl

def hexStep (s : ByteArray) (i : Nat) (_ : Unit) : Sum Bool Unit := if hexD (s.data.toList.getD (i + 1) 0) = true then .inr () else .inl false

theorem spec_hex (s : ByteArray) (hs : s.size = 5) (k : Nat) (hk : 4 < k) : spec_IsId.l0 k s 1 = some (run (hexStep s) (fun _ => true) 4 0 ()) := by
  refine loop0 (F := fun k i (_ : Unit) => spec_IsId.l0 k s ((i : Int) + 1)) 4 0 (fun _ _ => True) (fun _ _ _ _ _ _ => trivial) (fun k i _ _ hi _ => ?_) (fun k _ _ _ => ?_) () trivial k (by omega)
  · simp only [spec_IsId.l0]
    rw [if_pos (by omega), if_pos (by omega), if_pos (by omega), wrap_in (by omega) (by omega), show ((i : Int) + 1) = ((i + 1 : Nat) : Int) from rfl, bt_nat]
    unfold hexStep hexD
    have hb := (s.data.toList.getD (i + 1) 0).toNat_lt
    generalize (s.data.toList.getD (i + 1) 0).toNat = n at *
    by_cases h1 : 48 ≤ n ∧ n ≤ 57 ∨ 97 ≤ n ∧ n ≤ 102
    · rw [if_pos (decide_eq_true h1)]
      dsimp only
      (repeat' split) <;> first | rfl | (exfalso; omega)
    · rw [if_neg (fun h => h1 (of_decide_eq_true h))]
      dsimp only
      (repeat' split) <;> first | rfl | (exfalso; omega)
  · simp only [spec_IsId.l0]
    rw [if_neg (by omega)]

theorem spec_isId (s : ByteArray) (k : Nat) (hk : 8 ≤ k) : spec_IsId.f k s = some (isIdM s.data.toList) := by
  unfold spec_IsId.f
  obtain ⟨k, rfl⟩ : ∃ m, k = m + 1 := ⟨k - 1, by omega⟩
  by_cases h : s.size = 5
  · obtain ⟨a, b, c, d, e, hl⟩ := five h
    rw [if_pos (by omega), if_pos (by omega)]
    have e0 : bt s 0 = (a.toNat : Int) := by have := bt_nat s 0; rw [hl] at this; exact this
    have hx : ∀ x, spec_IsId.j0 (k + 1) s x = some (if x = true then false else hexD b && (hexD c && (hexD d && hexD e))) := by
      intro x
      simp only [spec_IsId.j0]
      cases x with
      | true => rfl
      | false =>
        rw [if_neg (by decide), spec_hex s h k (by omega), if_neg (by decide)]
        congr 1
        have g : ∀ i, s.data.toList.getD i 0 = [a, b, c, d, e].getD i 0 := fun i => by rw [hl]
        cases hb : hexD b
        · rw [run_out (r := false) (by unfold hexStep; rw [g]; simp [hb])]; rfl
        rw [run_on (s' := ()) (by unfold hexStep; rw [g]; simp [hb])]
        cases hc : hexD c
        · rw [run_out (r := false) (by unfold hexStep; rw [g]; simp [hc])]; rfl
        rw [run_on (s' := ()) (by unfold hexStep; rw [g]; simp [hc])]
        cases hd : hexD d
        · rw [run_out (r := false) (by unfold hexStep; rw [g]; simp [hd])]; rfl
        rw [run_on (s' := ()) (by unfold hexStep; rw [g]; simp [hd])]
        cases he : hexD e
        · rw [run_out (r := false) (by unfold hexStep; rw [g]; simp [he])]; rfl
        rw [run_on (s' := ()) (by unfold hexStep; rw [g]; simp [he])]
        rfl
    simp only [hx, hl, e0, Bool.false_eq_true, if_false]
    have q : ∀ n : Nat, n < 256 → ((a.toNat : Int) = (n : Int) ↔ a = n.toUInt8) := by
      intro n hn
      constructor
      · intro h
        apply UInt8.toNat_inj.1
        rw [UInt8.toNat_ofNat']
        omega
      · intro h
        rw [h, UInt8.toNat_ofNat']
        omega
    simp only [isIdM]
    have q1 := q 98 (by omega); have q2 := q 116 (by omega); have q3 := q 99 (by omega)
    by_cases h1 : (a.toNat : Int) = 98
    · rw [if_pos h1]; have := q1.1 h1; subst this; rfl
    · rw [if_neg h1]
      by_cases h2 : (a.toNat : Int) = 116
      · rw [if_pos h2]; have := q2.1 h2; subst this; rfl
      · rw [if_neg h2]
        have n1 : (a == 98) = false := beq_eq_false_iff_ne.2 (fun e => h1 (q1.2 e))
        have n2 : (a == 116) = false := beq_eq_false_iff_ne.2 (fun e => h2 (q2.2 e))
        rw [n1, n2]
        by_cases h3 : (a.toNat : Int) = 99
        · have := q3.1 h3; subst this; rfl
        · have n3 : (a == 99) = false := beq_eq_false_iff_ne.2 (fun e => h3 (q3.2 e))
          rw [n3, show ((a.toNat : Int) != 99) = true from bne_iff_ne.2 h3]
          rfl
  · rw [if_neg (by omega)]
    simp only [spec_IsId.j0]
    rw [isIdM_len (by rw [← size_list]; exact h)]
    rfl

theorem trimS_nil (l cs : List UInt8) : Lib.trimS l cs = [] ↔ ∀ b ∈ l, cs.contains b = true := by
  have hd : ∀ m : List UInt8, m.dropWhile (cs.contains ·) = [] ↔ ∀ b ∈ m, cs.contains b = true := by
    intro m
    induction m with
    | nil => simp
    | cons x m ih =>
      rw [List.dropWhile_cons]
      by_cases hx : cs.contains x = true
      · rw [if_pos hx, ih]
        constructor
        · intro h b hb
          rcases List.mem_cons.1 hb with rfl | hb
          · exact hx
          · exact h b hb
        · intro h b hb
          exact h b (List.mem_cons_of_mem _ hb)
      · rw [if_neg hx]
        constructor
        · intro h; cases h
        · intro h; exact absurd (h x List.mem_cons_self) hx
  unfold Lib.trimS Lib.trimLeftS Lib.trimRightS
  rw [hd]
  constructor
  · intro h b hb
    have : l.reverse.dropWhile (cs.contains ·) = [] := by
      cases hm : l.reverse.dropWhile (cs.contains ·) with
      | nil => rfl
      | cons x m =>
        exfalso
        have h1 := h x (by rw [hm]; simp)
        have h2 : ∀ (p : List UInt8), p.dropWhile (cs.contains ·) = x :: m → cs.contains x = false := by
          intro p
          induction p with
          | nil => intro h; simp at h
          | cons y p ih =>
            intro h
            rw [List.dropWhile_cons] at h
            by_cases hy : cs.contains y = true
            · rw [if_pos hy] at h; exact ih h
            · rw [if_neg hy] at h
              injection h with h _
              subst h
              simpa using hy
        have := h2 _ hm
        rw [this] at h1
        cases h1
    exact (hd _).1 this b (List.mem_reverse.2 hb)
  · intro h b hb
    have hm : b ∈ l.reverse := (List.dropWhile_sublist _).subset (List.mem_reverse.1 hb)
    exact h b (List.mem_reverse.1 hm)

theorem hexD_in (b : UInt8) : ([48, 49, 50, 51, 52, 53, 54, 55, 56, 57, 97, 98, 99, 100, 101, 102] : List UInt8).contains b = hexD b := by
  have key : ∀ n : Fin 256, ([48, 49, 50, 51, 52, 53, 54, 55, 56, 57, 97, 98, 99, 100, 101, 102] : List UInt8).contains (UInt8.ofNat n.val) = hexD (UInt8.ofNat n.val) := by decide +kernel
  have := key ⟨b.toNat, b.toNat_lt⟩
  simpa using this

theorem impl_isId (s : ByteArray) : impl_IsId.f s = some (isIdM s.data.toList) := by
  unfold impl_IsId.f
  by_cases h : s.size = 5
  · obtain ⟨a, b, c, d, e, hl⟩ := five h
    have e0 : bt s 0 = (a.toNat : Int) := by have := bt_nat s 0; rw [hl] at this; exact this
    rw [if_pos (by omega), if_pos (by omega)]
    unfold strings_IndexByte.f strings_Trim.f
    simp only [Option.bind_some]
    have hx : (s.extract 1 s.size).data.toList = [b, c, d, e] := by
      rw [Lib.extract_data, hl, h]
      rfl
    have hsz : (s.extract 1 s.size).size = 4 := by rw [size_list, hx]; rfl
    have ea : (bt s 0).toNat.toUInt8 = a := by rw [e0, Int.toNat_natCast]; simp
    have et : ((⟨(Lib.trimS (s.extract 1 s.size).data.toList (⟨#[48, 49, 50, 51, 52, 53, 54, 55, 56, 57, 97, 98, 99, 100, 101, 102]⟩ : ByteArray).data.toList).toArray⟩ : ByteArray).toList == ([] : List UInt8)) = (hexD b && (hexD c && (hexD d && hexD e))) := by
      rw [toList_eq, hx, Bool.eq_iff_iff, beq_iff_eq]
      show Lib.trimS [b, c, d, e] [48, 49, 50, 51, 52, 53, 54, 55, 56, 57, 97, 98, 99, 100, 101, 102] = [] ↔ _
      rw [trimS_nil]
      simp only [hexD_in]
      simp
    have hi : (Lib.indexByte [98, 116, 99] a < 0) ↔ (a == 98 || a == 116 || a == 99) = false := by
      have key : ∀ n : Fin 256, (Lib.indexByte [98, 116, 99] (UInt8.ofNat n.val) < 0) ↔ (UInt8.ofNat n.val == 98 || UInt8.ofNat n.val == 116 || UInt8.ofNat n.val == 99) = false := by decide +kernel
      have := key ⟨a.toNat, a.toNat_lt⟩
      simpa using this
    rw [ea, hl]
    show (if Lib.indexByte [98, 116, 99] a < 0 then _ else _) = _
    by_cases hc : (a == 98 || a == 116 || a == 99) = false
    · rw [if_pos (hi.2 hc)]; simp only [isIdM, hc]; rfl
    · rw [if_neg (fun z => hc (hi.1 z)), if_pos (by omega), if_pos (by omega), if_pos (by decide), if_pos (by decide)]
      simp only [Option.bind_some, isIdM]
      rw [et, show (a == 98 || a == 116 || a == 99) = true by revert hc; cases (a == 98 || a == 116 || a == 99) <;> simp]; rfl
  · rw [if_neg (by omega), isIdM_len (by rw [← size_list]; exact h)]

/-- .. of a kind. -/
def letterM (kind : Nat) : UInt8 := if kind = 1 then 98 else if kind = 2 then 116 else 99
def isIdOfM (kind : Nat) (l : List UInt8) : Bool := isIdM l && l.getD 0 0 == letterM kind

theorem impl_isIdOf_tells (kind : Nat) (hk : 1 ≤ kind ∧ kind ≤ 3) (s : ByteArray) : impl_isIdOf.f (kind : Int) s = some (isIdOfM kind s.data.toList) := by
  unfold impl_isIdOf.f isIdOfM
  rw [impl_isId]
  simp only [Option.bind_some]
  cases h : isIdM s.data.toList with
  | false => rfl
  | true =>
    have hs : s.size = 5 := by
      rw [size_list]
      rcases Nat.decEq s.data.toList.length 5 with h' | h'
      · rw [isIdM_len h'] at h; cases h
      · exact h'
    rw [if_pos rfl, if_pos (by omega), wrap_in (by omega) (by omega), if_pos (by omega), if_pos (by omega)]
    have e0 : bt s 0 = ((s.data.toList.getD 0 0).toNat : Int) := bt_nat s 0
    have e1 : bt (⟨#[98, 116, 99]⟩ : ByteArray) ((kind : Int) - 1) = ((letterM kind).toNat : Int) := by
      obtain rfl | rfl | rfl : kind = 1 ∨ kind = 2 ∨ kind = 3 := by omega
      · rfl
      · rfl
      · rfl
    rw [e0, e1, Bool.true_and]
    congr 1
    rw [Bool.eq_iff_iff, beq_iff_eq, beq_iff_eq]
    constructor
    · intro h; exact UInt8.toNat_inj.1 (by omega)
    · intro h; rw [h]

theorem spec_l6Is_tells (kind : Nat) (hk : 1 ≤ kind ∧ kind ≤ 3) (s : ByteArray) (k : Nat) (h8 : 8 ≤ k) : spec_l6Is.f k s (kind : Int) = some (isIdOfM kind s.data.toList) := by
  unfold spec_l6Is.f isIdOfM
  rw [spec_isId s k h8]
  simp only [Option.bind_some]
  cases h : isIdM s.data.toList with
  | false => rfl
  | true =>
    have hs : s.size = 5 := by
      rw [size_list]
      rcases Nat.decEq s.data.toList.length 5 with h' | h'
      · rw [isIdM_len h'] at h; cases h
      · exact h'
    obtain ⟨a, b, c, d, e, hl⟩ := five hs
    rw [if_pos rfl, if_pos (by omega), if_pos (by omega)]
    have e1 : spec_l5Letter.f (kind : Int) = some ⟨#[letterM kind]⟩ := by
      unfold spec_l5Letter.f
      rw [if_pos (by omega), wrap_in (by omega) (by omega), if_pos (by omega), if_pos (by omega)]
      obtain rfl | rfl | rfl : kind = 1 ∨ kind = 2 ∨ kind = 3 := by omega
      · rfl
      · rfl
      · rfl
    rw [e1]
    simp only [Option.bind_some, Bool.true_and]
    have e2 : (s.extract 0 1).toList = [a] := by rw [toList_eq, Lib.extract_data, hl]; rfl
    have e3 : (⟨#[letterM kind]⟩ : ByteArray).toList = [letterM kind] := by rw [toList_eq]
    rw [e2, e3, hl]
    congr 1
    rw [Bool.eq_iff_iff, beq_iff_eq, beq_iff_eq]
    simp
end Go.Proofs.YtcapmfgamdiijaaDoorX
