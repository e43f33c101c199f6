/- FnExactBackPath and FnExactFollowPath over numbers and lists: the program's BackPath and FollowPath answer what the reference's do. Conditions: the rows' own reach. -/
import Derived.Test.YtfemibdffapljaaXLoops
import Derived.Test.YtfemibdffapljaaPXx
namespace Go.Proofs.YtfemibdffapljaaX
open Go.RowKit Go.Proofs.YtfemibdffapljaaW.PrintWords Go.Proofs.Ytfemibdffapljaa.PX

def movesOk (l : List S35) : Prop := ∀ x ∈ l, (x.f0.size ≤ 140737488351232) ∧ (x.f1.size ≤ 140737488351232) ∧ ((Go.Lit.int .i64 x.f2).wf = true)

def moveTo (x : S35) : S36 := ⟨x.f0, x.f1, x.f2⟩

theorem szMove_tells (x : S35) (h : (x.f0.size ≤ 140737488351232) ∧ (x.f1.size ≤ 140737488351232) ∧ ((Go.Lit.int .i64 x.f2).wf = true)) (left : Int) (h0 : 0 ≤ left) (h1 : left ≤ 1048576) :
    ∃ r, laws_szMove.f x.f0 x.f1 x.f2 left = some r ∧ r ≤ left ∧ (0 ≤ r → x.f0.size ≤ 1048576 ∧ x.f1.size ≤ 1048576) := by
  unfold laws_szMove.f
  rw [wrap_in (i := left - (x.f0.size : Int)) (by omega) (by omega), wrap_in (i := left - (x.f0.size : Int) - (x.f1.size : Int)) (by omega) (by omega)]
  split
  · exact ⟨_, rfl, by omega, fun h => by omega⟩
  · split
    · exact ⟨_, rfl, by omega, fun h => by omega⟩
    · exact ⟨_, rfl, by omega, fun h => by omega⟩

theorem szMoveS_tells (l : List S35) (hl : l.length ≤ 140737488351232) (ho : movesOk l) (k : Nat) (hk : l.length < k) :
    ∃ r, laws_szMoveS.f k l 1048576 = some r ∧ (0 ≤ r → l.length ≤ 1048576 ∧ ∀ x ∈ l, x.f0.size ≤ 1048576 ∧ x.f1.size ≤ 1048576) := by
  unfold laws_szMoveS.f
  rw [wrap_in (by omega) (by omega)]
  split
  · exact ⟨-1, rfl, fun h => by omega⟩
  · obtain ⟨r, hr, hle, hq⟩ := sz_all (F := laws_szMoveS.l0) (Z := fun x left => laws_szMove.f x.f0 x.f1 x.f2 left) (fun x => (x.f0.size ≤ 140737488351232) ∧ (x.f1.size ≤ 140737488351232) ∧ ((Go.Lit.int .i64 x.f2).wf = true)) (fun x => x.f0.size ≤ 1048576 ∧ x.f1.size ≤ 1048576) z35
      (fun x hx left h0 h1 => szMove_tells x hx left h0 h1) (fun k xs left i => by simp only [laws_szMoveS.l0, rd_T35]) l hl ho (1048576 - (l.length : Int)) (by omega) (by omega) k hk
    exact ⟨r, hr, fun h => ⟨by omega, hq h⟩⟩

theorem toMoveS_tells (l : List S35) (hl : l.length ≤ 1048576) (k : Nat) (hk : l.length < k) : laws_toMoveS.f k l = some (l.map moveTo) := by
  unfold laws_toMoveS.f
  rw [if_pos (by omega), if_pos (by omega), Int.toNat_natCast]
  exact to_all (F := laws_toMoveS.l0) moveTo z35 (fun k xs ys i => by simp only [laws_toMoveS.l0, rd_T35, laws_toMove.f, Option.bind_some, moveTo]) l (by omega) _ k hk

theorem eqMove_tells (x y : S36) : ∃ b, laws_eqMove.f x.f0 x.f1 x.f2 y.f0 y.f1 y.f2 = some b ∧ (b = true ↔ x = y) := by
  unfold laws_eqMove.f
  cases x; cases y
  simp only [toList_iff, S36.mk.injEq]
  split
  · split
    · split
      · exact ⟨true, rfl, by simp [*]⟩
      · exact ⟨false, rfl, by simp [*]⟩
    · exact ⟨false, rfl, by simp [*]⟩
  · exact ⟨false, rfl, by simp [*]⟩

theorem eqMoveS_same (l : List S36) (hl : l.length ≤ 1048576) (k : Nat) (hk : l.length < k) : laws_eqMoveS.f k l l = some true := by
  unfold laws_eqMoveS.f
  rw [if_pos rfl]
  exact eq_all (F := laws_eqMoveS.l0) (E := fun x y => laws_eqMove.f x.f0 x.f1 x.f2 y.f0 y.f1 y.f2) z36 eqMove_tells (fun k xs ys i => by simp only [laws_eqMoveS.l0, rd_T36]) l (by omega) k hk

/-- The first move whose To (From) is the path. -/
theorem back_loops (l : List S36) (p : ByteArray) (hl : l.length ≤ 1048576) : ∀ (n k i : Nat), l.length - i = n → i ≤ l.length → n < k →
    ∃ r, spec_BackPath.l0 k l p (i : Int) = some r ∧ impl_BackPath.l0 k p l (l.length : Int) (i : Int) = some r := by
  intro n
  induction n with
  | zero =>
    intro k i hn hi hk
    obtain ⟨k, rfl⟩ : ∃ m, k = m + 1 := ⟨k - 1, by omega⟩
    exact ⟨p, by simp only [spec_BackPath.l0]; rw [if_neg (by omega)], by simp only [impl_BackPath.l0]; rw [if_neg (by omega)]⟩
  | succ n ih =>
    intro k i hn hi hk
    obtain ⟨k, rfl⟩ : ∃ m, k = m + 1 := ⟨k - 1, by omega⟩
    obtain ⟨r, h1, h2⟩ := ih k (i + 1) (by omega) (by omega) (by omega)
    by_cases c : ((rd_T36 l (i : Int)).f1).toList = p.toList
    · refine ⟨(rd_T36 l (i : Int)).f0, ?_, ?_⟩
      · simp only [spec_BackPath.l0]; rw [if_pos (by omega), if_pos (by omega), if_pos c]
      · simp only [impl_BackPath.l0]; rw [if_pos (by omega), if_pos (by omega), if_pos (by omega), if_pos c]
    · refine ⟨r, ?_, ?_⟩
      · simp only [spec_BackPath.l0]; rw [if_pos (by omega), if_pos (by omega), if_neg c, wrap_in (by omega) (by omega)]; exact h1
      · simp only [impl_BackPath.l0]; rw [if_pos (by omega), if_pos (by omega), if_pos (by omega), if_neg c, wrap_in (by omega) (by omega)]; exact h2

theorem follow_loops (l : List S36) (p : ByteArray) (hl : l.length ≤ 1048576) : ∀ (n k i : Nat), l.length - i = n → i ≤ l.length → n < k →
    ∃ r, spec_FollowPath.l0 k l p (i : Int) = some r ∧ impl_FollowPath.l0 k p l (l.length : Int) (i : Int) = some r := by
  intro n
  induction n with
  | zero =>
    intro k i hn hi hk
    obtain ⟨k, rfl⟩ : ∃ m, k = m + 1 := ⟨k - 1, by omega⟩
    exact ⟨p, by simp only [spec_FollowPath.l0]; rw [if_neg (by omega)], by simp only [impl_FollowPath.l0]; rw [if_neg (by omega)]⟩
  | succ n ih =>
    intro k i hn hi hk
    obtain ⟨k, rfl⟩ : ∃ m, k = m + 1 := ⟨k - 1, by omega⟩
    obtain ⟨r, h1, h2⟩ := ih k (i + 1) (by omega) (by omega) (by omega)
    by_cases c : ((rd_T36 l (i : Int)).f0).toList = p.toList
    · refine ⟨(rd_T36 l (i : Int)).f1, ?_, ?_⟩
      · simp only [spec_FollowPath.l0]; rw [if_pos (by omega), if_pos (by omega), if_pos c]
      · simp only [impl_FollowPath.l0]; rw [if_pos (by omega), if_pos (by omega), if_pos (by omega), if_pos c]
    · refine ⟨r, ?_, ?_⟩
      · simp only [spec_FollowPath.l0]; rw [if_pos (by omega), if_pos (by omega), if_neg c, wrap_in (by omega) (by omega)]; exact h1
      · simp only [impl_FollowPath.l0]; rw [if_pos (by omega), if_pos (by omega), if_pos (by omega), if_neg c, wrap_in (by omega) (by omega)]; exact h2

theorem backPath_pure (l : List S35) (p : ByteArray) (hl : l.length * 40 ≤ 140737488351232) (ho : movesOk l) (_hp : p.size ≤ 140737488351232) : ∃ k, laws_FnExactBackPath.f k l p = some true := by
  refine ⟨l.length + 1, ?_⟩
  unfold laws_FnExactBackPath.f
  split
  · rfl
  obtain ⟨r, hr, hq⟩ := szMoveS_tells l (by omega) ho (l.length + 1) (by omega)
  rw [hr]
  simp only [Option.bind_some]
  split
  · rfl
  obtain ⟨h1, _⟩ := hq (by omega)
  rw [toMoveS_tells l h1 _ (by omega)]
  have hm : (l.map moveTo).length = l.length := List.length_map _
  obtain ⟨q, g1, g2⟩ := back_loops (l.map moveTo) p (by omega) (l.map moveTo).length (l.length + 1) 0 (by omega) (by omega) (by omega)
  simp only [Option.bind_some]
  rw [show spec_BackPath.f (l.length + 1) (l.map moveTo) p = some q from g1]
  simp only [Option.bind_some]
  rw [show impl_BackPath.f (l.length + 1) (l.map moveTo) p = some q from g2]
  simp only [Option.bind_some, if_true]
  rw [eqMoveS_same _ (by omega) _ (by omega)]
  simp

theorem followPath_pure (l : List S35) (p : ByteArray) (hl : l.length * 40 ≤ 140737488351232) (ho : movesOk l) (_hp : p.size ≤ 140737488351232) : ∃ k, laws_FnExactFollowPath.f k l p = some true := by
  refine ⟨l.length + 1, ?_⟩
  unfold laws_FnExactFollowPath.f
  split
  · rfl
  obtain ⟨r, hr, hq⟩ := szMoveS_tells l (by omega) ho (l.length + 1) (by omega)
  rw [hr]
  simp only [Option.bind_some]
  split
  · rfl
  obtain ⟨h1, _⟩ := hq (by omega)
  rw [toMoveS_tells l h1 _ (by omega)]
  have hm : (l.map moveTo).length = l.length := List.length_map _
  obtain ⟨q, g1, g2⟩ := follow_loops (l.map moveTo) p (by omega) (l.map moveTo).length (l.length + 1) 0 (by omega) (by omega) (by omega)
  simp only [Option.bind_some]
  rw [show spec_FollowPath.f (l.length + 1) (l.map moveTo) p = some q from g1]
  simp only [Option.bind_some]
  rw [show impl_FollowPath.f (l.length + 1) (l.map moveTo) p = some q from g2]
  simp only [Option.bind_some, if_true]
  rw [eqMoveS_same _ (by omega) _ (by omega)]
  simp

end Go.Proofs.YtfemibdffapljaaX
