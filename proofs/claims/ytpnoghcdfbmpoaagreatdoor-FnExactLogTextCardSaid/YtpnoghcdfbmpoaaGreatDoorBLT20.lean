/- Texts of this claim set one behind another by wip/bundle.py: XCloneS. -/
import Derived.Test.YtpnoghcdfbmpoaaGreatDoorBLT17
import Derived.Lib.SliceRun
namespace Go.Proofs.YtpnoghcdfbmpoaaGreatDoor.PX.X
open Go Go.RowKit Go.Lib Go.Proofs.YtpnoghcdfbmpoaaGreatDoorW.PrintWords Go.Proofs.YtpnoghcdfbmpoaaGreatDoor.PX
set_option linter.unusedVariables false
set_option linter.unusedSimpArgs false
set_option maxHeartbeats 1000000 in
set_option maxRecDepth 8000 in
theorem cloneS (A0 : Option Addr) (c0 : Nat) (l0 : List ByteArray) (w : World) (hr0 : Kd.C Kd.string w A0 l0.length l0) (hbig : l0.length * 16 ≤ 140737488355328) :
 Calls Tryz.prog 66 #[.slice A0 l0.length c0] w fun e w' => ∃ v, e = .returned v ∧ Kd.Q Kd.string 9 w' w.heap.size (fun _ => True) v l0 ∧ Below w.heap.size w w' := by
 have q22 : ∀ (w : World) (a : Option Addr) (n c n' c' : Nat), (binOp .eql 29 (.slice a n c) (.slice none n' c')).run Tryz.prog w = .ok (.bool a.isNone) w := fun w a n c n' c' => Lib.run_eql_slice_nil w _ _ a n c n' c' Tryz.underlying29
 cases A0 with
 | none =>
   have h0 : l0 = [] := by
    cases l0 with
    | nil => rfl
    | cons x l =>
      obtain ⟨ad, h, _⟩ := hr0.2.2 zq12
      cases h
   subst h0
   go_enter Tryz.func66, Tryz.ntmps66
   go_wp2
   go_ret
   exact ⟨_, rfl, Kd.Q_nil _ _ _ _ _, Below.refl _ _⟩
 | some ad =>
   have HR := Lib.hid hr0
   clear hr0
   go_enter Tryz.func66, Tryz.ntmps66
   go_wp2_with (first | ((with_reducible refine gate_dst (N := 5) rfl ?_); refine Kd.R_lit Kd.string _ 9 ?hg (N := 5) ?hd (xs := ([] : List ByteArray)) (inner := []) (ok := fun _ => True) (okp := fun _ => True) ?hr ?hp (fun _ hk => hk) trivial (Below.refl _ _) (Nat.le_refl _) zq12 ?_; (case hd => rfl); (case hg => rfl); (case hr => first | (go_simp; done) | (go_simp; rfl)); (case hp => exact (Reps.none _ _)); intro v3 w2 ho3 hb2 hg_ hnew_; clear hg_ hnew_; have HO := Lib.hid (Kd.Q_of_R ho3); have HB2 := Lib.hid hb2; clear ho3 hb2) | ((with_reducible refine gate_builtin (b := .append) (xs := #[.tmp 5, .tmp 6]) rfl ?_); at_builtin; refine Q_append_rows (w0 := w) w.heap.size rfl (.tmp 5) (.tmp 6) 29 9 (.string ⟨#[]⟩) 16 rfl Tryz.underlying29 info9 rfl zq9 v3 [] l0 (some ad) c0 rfl rfl HO.out (Kd.C_below HR.out HB2.out) HB2.out HB2.out.size (by rw [List.length_nil, Nat.zero_add]; exact hbig) ?_; intro v5 w5 ho5 hb5 hg5 hat5; have O5 := Lib.hid ho5; have B5 := Lib.hid hb5; clear ho5 hb5 hg5 hat5))
   go_ret
   exact ⟨_, rfl, by have := O5.out; rw [List.nil_append] at this; exact this, B5.out⟩
end Go.Proofs.YtpnoghcdfbmpoaaGreatDoor.PX.X
