/- Texts of this claim set one behind another by wip/bundle.py: XReadS. -/
import Derived.Test.YtkjgnnhpjcofiaaGreatDoorBReadFiles23
import Derived.Test.YtkjgnnhpjcofiaaGreatDoorBReadFiles15
import Derived.Test.YtkjgnnhpjcofiaaGreatDoorBReadFiles19
import Derived.IntWalk
namespace Go.Proofs.YtkjgnnhpjcofiaaGreatDoor.PX.X
open Go Go.RowKit Go.Lib Go.Proofs.YtkjgnnhpjcofiaaGreatDoorW.PrintWords Go.Proofs.YtkjgnnhpjcofiaaGreatDoor.PX
set_option linter.unusedVariables false
set_option linter.unusedSimpArgs false
def CntQ (c n' : Int) (b : Nat) (w' : World) : Prop := c = 0 → w'.heap[b]? = some (.cells #[.int .i64 n'] 2 (0, 0))
theorem cntQ_off {c n' : Int} {b : Nat} {w' : World} (h : ¬ c = 0) : CntQ c n' b w' := fun z => absurd z h
set_option maxHeartbeats 4000000 in
set_option maxRecDepth 100000 in
theorem readS_calls (K : Nat) (A0 : Option Addr) (c0 : Nat) (l0 : List S65) (gt : ByteArray → ByteArray × Bool) (de : ByteArray → List EntT × Bool) (w0 : World) (hr0 : Kd.C k65 w0 A0 l0.length l0) (hc0 : l0.length ≤ c0) (hgt : ∀ x, spec_l5Get.f K l0 2 x = some (gt x)) (hde : ∀ x, (gt x).2 = true → spec_l6Untree.f K (gt x).1 = some (de (gt x).1)) (G : GoodN (ndG gt de)) :
 ∀ (kq : Nat) (n : Int) (t p : ByteArray) (d c n' : Int) (out : List FileT) (w : World) (b : Nat), Below w0.heap.size w0 w → w0.heap.size ≤ b → w.heap[b]? = some (.cells #[.int .i64 n] 2 (0, 0)) →
  0 ≤ n → n ≤ 200 → 0 ≤ d → d ≤ 4 → (p.size : Int) ≤ 13 * d → walkV (ndG gt de) kq n t p d = some (c, n', out) →
  Calls Tryz.prog 73 #[.slice A0 l0.length c0, .string t, .string p, .int .i64 d, .pointer (some ⟨b, 0, none⟩)] w fun e w' => ∃ v, e = .returned (.tuple #[v, .int .i64 c]) ∧ Kd.R k75 75 w' w.heap.size (fun _ => True) v (if c = 0 then out else []) ∧ w.grownBy w' (some b) ∧ CntQ c n' b w'
 | 0, n, t, p, d, c, n', out, w, b, hw, hwb, hb, hn0, hn2, hd0, hd4, hps, h => by simp [walkV] at h
 | kq + 1, n, t, p, d, c, n', out, w, b, hw, hwb, hb, hn0, hn2, hd0, hd4, hps, h => by
   have IH := Lib.hid (readS_calls K A0 c0 l0 gt de w0 hr0 hc0 hgt hde G kq)
   have HLN := Lib.hid (fun n t p d n' out => walkV_len G kq n t p d n' out)
   have HGET := Lib.hid (fun (W : World) (hW : Below w0.heap.size w0 W) => spec_l5Get.calls K A0 c0 l0 2 t (gt t).1 (gt t).2 W (Kd.C_below hr0 hW) hc0 (hgt t))
   have HDEC := Lib.hid (fun (hq : (gt t).2 = true) (W : World) => spec_l6Untree.calls K (gt t).1 (de (gt t).1).1 (de (gt t).1).2 W (hde t hq))
   have hnd : ndG gt de t = if (gt t).2 = true then (if (de (gt t).1).2 = true then (0, (de (gt t).1).1) else (5, [])) else (4, []) := rfl
   have hg1 := G.len t
   have hg2 := G.sz t
   rw [hnd] at hg1 hg2
   rw [walkV, hnd] at h
   clear hnd hr0 hc0 hgt hde G
   generalize walkV (ndG gt de) kq = gq at IH HLN h
   generalize gt t = g at HGET HDEC h hg1 hg2
   obtain ⟨D, gb⟩ := g
   simp only at HGET HDEC h hg1 hg2
   generalize de D = q at HDEC h hg1 hg2
   obtain ⟨es, db⟩ := q
   simp only at HDEC h hg1 hg2
   have HW := Lib.hid hw
   have HWB := Lib.hid hwb
   have HB := Lib.hid hb
   have HPS := Lib.hid hps
   have x0 := (blk_cell hb 0).trans rfl
   have fr0 := blk_frozen hb 0
   have hb1 : (w.setCell ⟨b, 0, none⟩ (.int .i64 (n + 1))).heap[b]? = some (.cells #[.int .i64 (n + 1)] 2 (0, 0)) := blk_put (cs := #[.int .i64 n]) hb 0 (.int .i64 (n + 1)) rfl
   have HB1 := Lib.hid hb1
   have HW1 := Lib.hid (below_set (j := 0) (v := .int .i64 (n + 1)) HW.out HWB.out)
   have HG1 := Lib.hid (show w.grownBy (w.setCell ⟨b, 0, none⟩ (.int .i64 (n + 1))) (some b) from grown_set w b 0 _)
   have z0 := (blk_cell hb1 0).trans rfl
   clear hw hwb hb hps hb1
   by_cases h200 : n = 200
   · subst h200
     rw [if_pos rfl] at h
     simp only [Option.some.injEq, Prod.mk.injEq] at h
     obtain ⟨rfl, rfl, rfl⟩ := h
     go_enter Tryz.func73, Tryz.ntmps73
     go_wp2
     go_ret2
     exact ⟨_, rfl, Kd.R_nil _ _ _ _ _, HG1.out, cntQ_off zq13⟩
   · rw [if_neg h200] at h
     have hn3 : n + 1 ≤ 200 := by omega
     have hn4 : decide (n + 1 > 200) = false := decide_eq_false zq7
     have hn5 : decide (200 < n + 1) = false := decide_eq_false zq7
     cases gb with
     | false =>
       replace h : (some ((4 : Int), n + 1, ([] : List FileT)) : WalkT) = some (c, n', out) := h
       simp only [Option.some.injEq, Prod.mk.injEq] at h
       obtain ⟨rfl, rfl, rfl⟩ := h
       go_enter Tryz.func73, Tryz.ntmps73
       go_wp2_with (go_at_call 99; (with_reducible refine (HGET.out _ HW1.out).mono ?_); rintro e w2 ⟨rfl, hbb_⟩; have B2 := Lib.hid hbb_.below; clear hbb_)
       go_ret2
       exact ⟨_, rfl, Kd.R_nil _ _ _ _ _, gr_tr HG1.out (gr_of B2.out _), cntQ_off zq13⟩
     | true =>
       have HDC := Lib.hid (HDEC.out rfl)
       clear HDEC
       cases db with
       | false =>
         replace h : (some ((5 : Int), n + 1, ([] : List FileT)) : WalkT) = some (c, n', out) := h
         simp only [Option.some.injEq, Prod.mk.injEq] at h
         obtain ⟨rfl, rfl, rfl⟩ := h
         go_enter Tryz.func73, Tryz.ntmps73
         go_wp2_with (first
          | (go_at_call 99; (with_reducible refine (HGET.out _ HW1.out).mono ?_); rintro e w2 ⟨rfl, hbb_⟩; have B2 := Lib.hid hbb_.below; clear hbb_)
          | (go_at_call 120; (with_reducible refine (HDC.out w2).mono ?_); rintro e w3 ⟨v3, rfl, hoo_, hbb_⟩; obtain ⟨A3, c3, rfl⟩ := Kd.R_slice hoo_; have O3 := Lib.hid hoo_; have B3 := Lib.hid hbb_; clear hbb_ hoo_))
         go_ret2
         exact ⟨_, rfl, Kd.R_nil _ _ _ _ _, gr_tr (gr_tr HG1.out (gr_of B2.out _)) (gr_of B3.out _), cntQ_off zq13⟩
       | true =>
         replace h : walkE gq es (n + 1) p d = some (c, n', out) := h
         simp only [if_true] at hg1 hg2
         have HES := Lib.hid hg1
         have HSZ := Lib.hid hg2
         have HH := Lib.hid h
         clear hg1 hg2 h
         go_enter Tryz.func73, Tryz.ntmps73
         go_wp2_with (first
          | (go_at_call 99; (with_reducible refine (HGET.out _ HW1.out).mono ?_); rintro e w2 ⟨rfl, hbb_⟩; have B2 := Lib.hid hbb_.below; clear hbb_)
          | (go_at_call 120; (with_reducible refine (HDC.out w2).mono ?_); rintro e w3 ⟨v3, rfl, hoo_, hbb_⟩; obtain ⟨A3, c3, rfl⟩ := Kd.R_slice hoo_; have O3 := Lib.hid hoo_; have B3 := Lib.hid hbb_; clear hbb_ hoo_)
          | ((with_reducible refine gate_dst (N := 45) rfl ?_); refine Kd.R_lit k75 _ 75 ?hg (N := 45) ?hd (xs := ([] : List FileT)) (inner := []) (ok := fun _ => True) (okp := fun _ => True) ?hr ?hp (fun _ hk => hk) trivial (Below.refl _ _) (Nat.le_refl _) zq16 ?_; (case hd => rfl); (case hg => rfl); (case hr => first | (go_simp; done) | (go_simp; rfl)); (case hp => exact (Reps.none _ _)); intro v8 w8 ho8 hb8 hg_ hnew_; clear hg_ hnew_; have O8 := Lib.hid ho8; have B8 := Lib.hid hb8; clear ho8 hb8))
         have hw2 := HW1.out.trans (B2.out.mono HW1.out.size)
         have hw3 := hw2.trans (B3.out.mono hw2.size)
         have HW8 := Lib.hid (hw3.trans (B8.out.mono hw3.size))
         have HG8 := Lib.hid (gr_tr (gr_tr (gr_tr HG1.out (gr_of B2.out _)) (gr_of B3.out _)) (gr_of B8.out (some b)))
         have HB8 := Lib.hid (blk_below (blk_below (blk_below HB1.out B2.out) B3.out) B8.out)
         have O38 := Lib.hid (Kd.R_below O3.out B8.out)
         have hsz : w.heap.size ≤ w3.heap.size := Nat.le_trans HG1.out.size (Nat.le_trans B2.out.size B3.out.size)
         have O88 := Lib.hid (Kd.R_lower O8.out hsz)
         clear hw2 hw3 hsz HW1 HG1 HB1 HGET HDC z0 x0 fr0 HB O3 O8
         go_loopg [15, 16] es.length (fun gg s15 s16 wr => ∃ (i : Nat) (ni : Int) (Li o : List FileT), s16 = .int .i64 i ∧ i ≤ es.length ∧ es.length - i ≤ gg ∧ Aside (wr.heap[b]? = some (.cells #[.int .i64 ni] 2 (0, 0))) ∧ Aside (Kd.R k75 75 wr w.heap.size (fun _ => True) s15 Li) ∧ Aside (Kd.R k118 118 wr w2.heap.size (fun _ => True) (.slice A3 es.length c3) es) ∧ Aside (w.grownBy wr (some b)) ∧ Aside (Below w0.heap.size w0 wr) ∧ Aside (0 ≤ ni ∧ ni ≤ 200 ∧ (Li.length : Int) + 100 * (200 - ni) + ((es.length : Int) - i) ≤ 20000) ∧ Aside (walkE gq (es.drop i) ni p d = some (c, n', o)) ∧ Aside (c = 0 → Li ++ o = out))
         case atStart => exact ⟨0, n + 1, [], out, rfl, Nat.zero_le _, by omega, HB8.out, O88.out, O38.out, HG8.out, HW8.out, (show _ ∧ _ ∧ _ from by have := HES.out; rw [List.length_nil]; refine ⟨?_, ?_, ?_⟩ <;> omega), HH.out, fun _ => rfl⟩
         case round =>
          clear HB8 O88 O38 HG8 HW8 HH
          rename World => wq
          obtain ⟨i, ni, Li, o, rfl, hi, hgg, BB, RR, OE, GG, BW, NN, WE, LO⟩ := hrel
          obtain ⟨Ai, ci, hvi⟩ := Kd.R_slice RR.out
          subst hvi
          by_cases hlt : i < es.length
          · have hes := HES.out
            have hiz : (0 : Int) ≤ (i : Int) := Int.natCast_nonneg i
            have hil : (i : Int) < (es.length : Int) := by omega
            obtain ⟨ad, hA, q0, q1, q2⟩ := at_T118 (Kd.R_reads' OE.out).2.2 (i : Int) hiz hil
            subst hA
            rw [entAt, Int.toNat_natCast] at q0 q1 q2
            have hwe := WE.out
            rw [drop_ent es i hlt] at hwe
            have hxz := HSZ.out _ (ent_mem es i hlt)
            generalize es.getD i z118 = x at q0 q1 q2 hwe hxz
            have HXZ := Lib.hid hxz
            clear hxz WE
            by_cases hd : d = 4
            · subst hd
              rw [walkE, if_pos rfl] at hwe
              simp only [Option.some.injEq, Prod.mk.injEq] at hwe
              obtain ⟨rfl, rfl, rfl⟩ := hwe
              go_wp2_with ((with_reducible refine gate_dst (N := 17) rfl ?_); refine box_event ?hg (N := 17) ?hd (cs := #[.string (⟨#[]⟩ : ByteArray), .int .i64 0, .string (⟨#[]⟩ : ByteArray)]) (t := 118) ?hr ?_; (case hd => rfl); (case hg => rfl); (case hr => first | (go_simp; done) | (go_simp; rfl)); intro ge hge w4 hbox hb4; have HBX := Lib.hid hbox; have B4 := Lib.hid hb4; have HGE := Lib.hid hge; have y0 := (blk_cell hbox 0).trans rfl; have y1 := (blk_cell hbox 1).trans rfl; have y2 := (blk_cell hbox 2).trans rfl; have f0 := blk_frozen hbox 0; have f1 := blk_frozen hbox 1; have f2 := blk_frozen hbox 2; clear hbox hb4 hge)
              go_ret2
              have hgq : wq.heap.size ≤ ge := Nat.le_of_eq HGE.out.symm
              have hb5 : Below wq.heap.size wq (((w4.setCell ⟨ge, 0, none⟩ (.string x.f0)).setCell ⟨ge, 1, none⟩ (.int .i64 x.f1)).setCell ⟨ge, 2, none⟩ (.string x.f2)) := below_set (below_set (below_set B4.out hgq) hgq) hgq
              exact ⟨_, rfl, Kd.R_nil _ _ _ _ _, gr_tr GG.out (gr_of hb5 _), cntQ_off zq13⟩
            · rw [walkE, if_neg hd] at hwe
              have hd3 : d + 1 ≤ 4 := by omega
              have hd5 : decide (d ≥ 4) = false := decide_eq_false zq7
              have hd6 : decide (4 ≤ d) = false := decide_eq_false zq7
              have hps := HPS.out
              have hxz := HXZ.out
              have g1 : (9223372036854775807 < p.size + x.f0.size) = False := eq_false zq7
              have g2 : (9223372036854775807 < p.size + x.f0.size + 1) = False := eq_false zq7
              have hpz : ((((p ++ x.f0) ++ (⟨#[47]⟩ : ByteArray)).size : Nat) : Int) ≤ 13 * (d + 1) := by
               rw [ByteArray.size_append, ByteArray.size_append, show (⟨#[47]⟩ : ByteArray).size = 1 from rfl]
               omega
              have HPZ := Lib.hid hpz
              clear hpz hps hxz
              by_cases hm : x.f1 = 3
              · rw [if_pos hm] at hwe
                obtain ⟨⟨k1, n1, o1⟩, hgo, hwe⟩ := Option.bind_eq_some_iff.mp hwe
                simp only at hwe
                have HGO := Lib.hid hgo
                clear hgo
                by_cases hk1 : k1 = 0
                · subst hk1
                  rw [if_pos rfl] at hwe
                  obtain ⟨⟨k2, n2, o2⟩, hg2, hwe⟩ := Option.bind_eq_some_iff.mp hwe
                  simp only [Option.some.injEq, Prod.mk.injEq] at hwe
                  obtain ⟨rfl, rfl, rfl⟩ := hwe
                  have HG2 := Lib.hid hg2
                  have hsum : Li.length + o1.length ≤ 20000 := by
                   have h1 := NN.out
                   obtain ⟨h2, h3, h4⟩ := HLN.out ni x.f2 _ (d + 1) n1 o1 h1.2.1 HGO.out
                   omega
                  have HSUM := Lib.hid hsum
                  clear hg2 hsum
                  go_wp2_with (first
                   | ((with_reducible refine gate_dst (N := 17) rfl ?_); refine box_event ?hg (N := 17) ?hd (cs := #[.string (⟨#[]⟩ : ByteArray), .int .i64 0, .string (⟨#[]⟩ : ByteArray)]) (t := 118) ?hr ?_; (case hd => rfl); (case hg => rfl); (case hr => first | (go_simp; done) | (go_simp; rfl)); intro ge hge w4 hbox hb4; have HBX := Lib.hid hbox; have B4 := Lib.hid hb4; have HGE := Lib.hid hge; have y0 := (blk_cell hbox 0).trans rfl; have y1 := (blk_cell hbox 1).trans rfl; have y2 := (blk_cell hbox 2).trans rfl; have f0 := blk_frozen hbox 0; have f1 := blk_frozen hbox 1; have f2 := blk_frozen hbox 2; clear hbox hb4 hge)
                   | (go_at_call 73; (with_reducible refine (IH.out ni x.f2 ((p ++ x.f0) ++ (⟨#[47]⟩ : ByteArray)) (d + 1) 0 n1 o1 _ b ?a1 HWB.out ?a2 NN.out.1 NN.out.2.1 zq7 hd3 HPZ.out HGO.out).mono ?_); (case a1 => have hgq : wq.heap.size ≤ ge := Nat.le_of_eq HGE.out.symm; have hb5 : Below wq.heap.size wq (((w4.setCell ⟨ge, 0, none⟩ (.string x.f0)).setCell ⟨ge, 1, none⟩ (.int .i64 3)).setCell ⟨ge, 2, none⟩ (.string x.f2)) := below_set (below_set (below_set B4.out hgq) hgq) hgq; exact BW.out.trans (hb5.mono BW.out.size)); (case a2 => have hgq : wq.heap.size ≤ ge := Nat.le_of_eq HGE.out.symm; have hb5 : Below wq.heap.size wq (((w4.setCell ⟨ge, 0, none⟩ (.string x.f0)).setCell ⟨ge, 1, none⟩ (.int .i64 3)).setCell ⟨ge, 2, none⟩ (.string x.f2)) := below_set (below_set (below_set B4.out hgq) hgq) hgq; exact blk_below BB.out hb5); rintro e w6 ⟨v6, rfl, ho6, hg6, hc6⟩; have hgq : wq.heap.size ≤ ge := Nat.le_of_eq HGE.out.symm; have hb5 : Below wq.heap.size wq (((w4.setCell ⟨ge, 0, none⟩ (.string x.f0)).setCell ⟨ge, 1, none⟩ (.int .i64 3)).setCell ⟨ge, 2, none⟩ (.string x.f2)) := below_set (below_set (below_set B4.out hgq) hgq) hgq; have G6 := Lib.hid (gr_tr (gr_of hb5 (some b)) hg6); rw [if_pos rfl] at ho6; have R6 := Lib.hid (Kd.R_lower ho6 hb5.size); have C6 := Lib.hid hc6; clear hb5 hgq ho6 hg6 hc6; obtain ⟨A6, c6, rfl⟩ := Kd.R_slice R6.out; have hb6 := C6.out rfl; have hbw := Kd.R_lt RR.out; have RL6 := Lib.hid (R_grT RR.out G6.out BB.out zq13); have OE6 := Lib.hid (R_grT OE.out G6.out BB.out zq13); have GG6 := Lib.hid (gr_tr GG.out G6.out); have BW6 := Lib.hid (BW.out.grown G6.out BW.out.size (fun k hk => by obtain rfl := Option.some.inj hk; exact HWB.out)); have C6B := Lib.hid hb6; have NB6 := Lib.hid (Kd.R_ne RL6.out hb6 zq13); have BL6 := Lib.hid (Below.refl w6.heap.size w6); clear hb6 hbw C6)
                   | ((with_reducible refine gate_builtin (b := .append) (xs := #[.tmp 91, .tmp 92]) rfl ?_); at_builtin; refine Kd.R_append_rows k75 (w0 := w6) w.heap.size rfl (.tmp 91) (.tmp 92) 24 75 (.agg #[.string ⟨#[]⟩, .int .i64 0, .string ⟨#[]⟩]) 40 rfl Tryz.underlying24 info75 rfl zq13 zq13 (.slice Ai Li.length ci) Li o1 A6 o1.length c6 (fun _ => True) (fun _ => False) rfl rfl ?aO (Kd.R_reads' R6.out).2.2 (fun _ _ h => h) (fun _ hk => hk.elim) (fun _ _ => trivial) ?aB ?aS ?aL ?_; (case aO => exact RL6.out); (case aB => exact (BL6.out.mono GG6.out.size)); (case aS => exact GG6.out.size); (case aL => have := HSUM.out; omega); intro v7 w7 ho7 hb7 hg7 hat7; have O7 := Lib.hid ho7; have G7 := Lib.hid hg7; have OE7 := Lib.hid (R_over2 OE6.out hg7 (Kd.R_typed RL6.out) zq13); have GG7 := Lib.hid (gr_row GG6.out hg7 (fun k hk => Kd.R_base RL6.out k hk)); have BW7 := Lib.hid (BW6.out.grown hg7 BW6.out.size (fun k hk => by have h1 := Kd.R_base RL6.out k hk; have h2 := HW.out.size; omega)); clear ho7 hb7 hg7 hat7))
                  go_roundg (es.length - (i + 1))
                  case measure => omega
                  case rel =>
                   exact ⟨i + 1, n1, Li ++ o1, o2, by go_num, by omega, by omega, (blk_grown C6B.out G7.out NB6.out), O7.out, OE7.out, GG7.out, BW7.out, (show _ ∧ _ ∧ _ from by
                    have h1 := NN.out
                    obtain ⟨h2, h3, h4⟩ := HLN.out ni x.f2 _ (d + 1) n1 o1 h1.2.1 HGO.out
                    rw [List.length_append]
                    refine ⟨?_, ?_, ?_⟩ <;> omega), HG2.out, (show _ → _ from fun hc => by rw [List.append_assoc]; exact LO.out hc)⟩
                · rw [if_neg hk1] at hwe
                  simp only [Option.some.injEq, Prod.mk.injEq] at hwe
                  obtain ⟨rfl, rfl, rfl⟩ := hwe
                  go_wp2_with (first
                   | ((with_reducible refine gate_dst (N := 17) rfl ?_); refine box_event ?hg (N := 17) ?hd (cs := #[.string (⟨#[]⟩ : ByteArray), .int .i64 0, .string (⟨#[]⟩ : ByteArray)]) (t := 118) ?hr ?_; (case hd => rfl); (case hg => rfl); (case hr => first | (go_simp; done) | (go_simp; rfl)); intro ge hge w4 hbox hb4; have HBX := Lib.hid hbox; have B4 := Lib.hid hb4; have HGE := Lib.hid hge; have y0 := (blk_cell hbox 0).trans rfl; have y1 := (blk_cell hbox 1).trans rfl; have y2 := (blk_cell hbox 2).trans rfl; have f0 := blk_frozen hbox 0; have f1 := blk_frozen hbox 1; have f2 := blk_frozen hbox 2; clear hbox hb4 hge)
                   | (go_at_call 73; (with_reducible refine (IH.out ni x.f2 ((p ++ x.f0) ++ (⟨#[47]⟩ : ByteArray)) (d + 1) k1 n1 o1 _ b ?a1 HWB.out ?a2 NN.out.1 NN.out.2.1 zq7 hd3 HPZ.out HGO.out).mono ?_); (case a1 => have hgq : wq.heap.size ≤ ge := Nat.le_of_eq HGE.out.symm; have hb5 : Below wq.heap.size wq (((w4.setCell ⟨ge, 0, none⟩ (.string x.f0)).setCell ⟨ge, 1, none⟩ (.int .i64 3)).setCell ⟨ge, 2, none⟩ (.string x.f2)) := below_set (below_set (below_set B4.out hgq) hgq) hgq; exact BW.out.trans (hb5.mono BW.out.size)); (case a2 => have hgq : wq.heap.size ≤ ge := Nat.le_of_eq HGE.out.symm; have hb5 : Below wq.heap.size wq (((w4.setCell ⟨ge, 0, none⟩ (.string x.f0)).setCell ⟨ge, 1, none⟩ (.int .i64 3)).setCell ⟨ge, 2, none⟩ (.string x.f2)) := below_set (below_set (below_set B4.out hgq) hgq) hgq; exact blk_below BB.out hb5); rintro e w6 ⟨v6, rfl, ho6, hg6, hc6⟩; have hgq : wq.heap.size ≤ ge := Nat.le_of_eq HGE.out.symm; have hb5 : Below wq.heap.size wq (((w4.setCell ⟨ge, 0, none⟩ (.string x.f0)).setCell ⟨ge, 1, none⟩ (.int .i64 3)).setCell ⟨ge, 2, none⟩ (.string x.f2)) := below_set (below_set (below_set B4.out hgq) hgq) hgq; have G6 := Lib.hid (gr_tr (gr_of hb5 (some b)) hg6); clear hb5 hgq hg6 hc6; obtain ⟨A6, c6, rfl⟩ := Kd.R_slice ho6; clear ho6))
                  go_ret2
                  exact ⟨_, rfl, Kd.R_nil _ _ _ _ _, gr_tr GG.out G6.out, cntQ_off hk1⟩
              · rw [if_neg hm] at hwe
                obtain ⟨⟨k2, n2, o2⟩, hg2, hwe⟩ := Option.bind_eq_some_iff.mp hwe
                simp only [Option.some.injEq, Prod.mk.injEq] at hwe
                obtain ⟨rfl, rfl, rfl⟩ := hwe
                have HG2 := Lib.hid hg2
                clear hg2
                go_wp2_with (first
                 | ((with_reducible refine gate_dst (N := 17) rfl ?_); refine box_event ?hg (N := 17) ?hd (cs := #[.string (⟨#[]⟩ : ByteArray), .int .i64 0, .string (⟨#[]⟩ : ByteArray)]) (t := 118) ?hr ?_; (case hd => rfl); (case hg => rfl); (case hr => first | (go_simp; done) | (go_simp; rfl)); intro ge hge w4 hbox hb4; have HBX := Lib.hid hbox; have B4 := Lib.hid hb4; have HGE := Lib.hid hge; have y0 := (blk_cell hbox 0).trans rfl; have y1 := (blk_cell hbox 1).trans rfl; have y2 := (blk_cell hbox 2).trans rfl; have f0 := blk_frozen hbox 0; have f1 := blk_frozen hbox 1; have f2 := blk_frozen hbox 2; clear hbox hb4 hge)
                 | ((with_reducible refine gate_builtin (b := .append) (xs := #[.tmp 61, .tmp 71]) rfl ?_); at_builtin; refine Kd.R_append k75 (w0 := wq) w.heap.size rfl (.tmp 61) (.tmp 71) 24 75 (.agg #[.string ⟨#[]⟩, .int .i64 0, .string ⟨#[]⟩]) 40 rfl Tryz.underlying24 info75 rfl zq13 zq13 (.slice Ai Li.length ci) Li (⟨p ++ x.f0, x.f1, x.f2⟩ : FileT) [.string (p ++ x.f0), .int .i64 x.f1, .string x.f2] (fun _ => True) (fun _ => False) rfl (by first | (go_simp; done) | (go_simp; rfl)) ?aP (fun _ hk => hk.elim) (fun _ _ => trivial) ?aO ?aB ?aS ?aL ?_; (case aP => exact k75_mkM _ _ _ (⟨p ++ x.f0, x.f1, x.f2⟩ : FileT)); (case aO => have hgq : wq.heap.size ≤ ge := Nat.le_of_eq HGE.out.symm; have hb5 : Below wq.heap.size wq (((w4.setCell ⟨ge, 0, none⟩ (.string x.f0)).setCell ⟨ge, 1, none⟩ (.int .i64 x.f1)).setCell ⟨ge, 2, none⟩ (.string x.f2)) := below_set (below_set (below_set B4.out hgq) hgq) hgq; exact Kd.R_below RR.out hb5); (case aB => have hgq : wq.heap.size ≤ ge := Nat.le_of_eq HGE.out.symm; have hb5 : Below wq.heap.size wq (((w4.setCell ⟨ge, 0, none⟩ (.string x.f0)).setCell ⟨ge, 1, none⟩ (.int .i64 x.f1)).setCell ⟨ge, 2, none⟩ (.string x.f2)) := below_set (below_set (below_set B4.out hgq) hgq) hgq; exact hb5.mono GG.out.size); (case aS => have hgq : wq.heap.size ≤ ge := Nat.le_of_eq HGE.out.symm; have hb5 : Below wq.heap.size wq (((w4.setCell ⟨ge, 0, none⟩ (.string x.f0)).setCell ⟨ge, 1, none⟩ (.int .i64 x.f1)).setCell ⟨ge, 2, none⟩ (.string x.f2)) := below_set (below_set (below_set B4.out hgq) hgq) hgq; exact Nat.le_trans GG.out.size hb5.size); (case aL => have := NN.out; omega); intro v7 w7 ho7 hb7 hg7 hat7; have hgq : wq.heap.size ≤ ge := Nat.le_of_eq HGE.out.symm; have hb5 : Below wq.heap.size wq (((w4.setCell ⟨ge, 0, none⟩ (.string x.f0)).setCell ⟨ge, 1, none⟩ (.int .i64 x.f1)).setCell ⟨ge, 2, none⟩ (.string x.f2)) := below_set (below_set (below_set B4.out hgq) hgq) hgq; have O7 := Lib.hid ho7; have G7 := Lib.hid hg7; have H5 := Lib.hid hb5; clear ho7 hb7 hg7 hat7 hb5 hgq))
                have hbq := blk_below BB.out H5.out
                have hnb := Kd.R_ne (Kd.R_below RR.out H5.out) hbq zq13
                have htw := R_over2 (Kd.R_below OE.out H5.out) G7.out (Kd.R_typed (Kd.R_below RR.out H5.out)) zq13
                go_roundg (es.length - (i + 1))
                case measure => omega
                case rel =>
                 exact ⟨i + 1, ni, Li ++ [(⟨p ++ x.f0, x.f1, x.f2⟩ : FileT)], o2, by go_num, by omega, by omega, (blk_grown hbq G7.out hnb), O7.out, htw, gr_row (gr_tr GG.out (gr_of H5.out _)) G7.out (fun k hk => by
                  have := Kd.R_base RR.out k hk; omega), (BW.out.trans (H5.out.mono BW.out.size)).grown G7.out (Nat.le_trans BW.out.size H5.out.size) (fun k hk => by
                  have h1 := Kd.R_base RR.out k hk
                  have h2 := HW.out.size
                  omega), (show _ ∧ _ ∧ _ from by
                  have h1 := NN.out
                  rw [List.length_append, List.length_singleton]
                  refine ⟨?_, ?_, ?_⟩ <;> omega), HG2.out, (show _ → _ from fun hc => by rw [List.append_assoc]; exact LO.out hc)⟩
          · have hil : ¬ (i : Int) < (es.length : Int) := by omega
            have hwe := WE.out
            rw [List.drop_eq_nil_of_le zq7] at hwe
            simp only [walkE, Option.some.injEq, Prod.mk.injEq] at hwe
            obtain ⟨rfl, rfl, rfl⟩ := hwe
            have hlo := LO.out rfl
            rw [List.append_nil] at hlo
            subst hlo
            clear WE
            go_wp2
            go_ret2
            exact ⟨_, rfl, RR.out, GG.out, fun _ => BB.out⟩
end Go.Proofs.YtkjgnnhpjcofiaaGreatDoor.PX.X
