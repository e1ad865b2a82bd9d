/- Walks: the reference's Text. -/
import Derived.Test.YtdcahnkcnbhknaaGreatDoorEnRtC
import Derived.Test.YtdcahnkcnbhknaaGreatDoorEnText
import Derived.Test.YtdcahnkcnbhknaaGreatDoorWrR3
namespace Go.Proofs.YtdcahnkcnbhknaaGreatDoor
open Go.RowKit Go.Deep

set_option maxRecDepth 100000 in
set_option maxHeartbeats 16000000 in
theorem rtext_any (e : En) (a1 a2 a3 : Option Addr) (c1 c2 c3 : Nat) (w : World) (hr : EnRep (· < w.heap.size) w e a1 a2 a3 c1 c2 c3) (hw : EnWf e) :
    Calls Tryz.prog 17 #[enV e a1 a2 a3 c1 c2 c3] w fun en w' => en = .returned (.string ⟨(txtF e).toArray⟩) ∧ Upd (fun _ => False) w w' := by
  have HR := hid hr; have HWF := hid hw
  by_cases hR : RightE e
  case neg =>
    have ht : txtF e = [] := if_neg hR
    rw [ht]
    have HN := hid hR
    clear hr hR hw ht
    unfold enV
    go_enter Tryz.func17, Tryz.ntmps17
    go_wp2_with fail
    refine (rright_any e a1 a2 a3 c1 c2 c3 (· < w.heap.size) _ (HR.out.keep ((Upd.refl _ _).alloc _))).mono ?_
    rintro en w1 ⟨rfl, u⟩
    rw [decide_eq_false HN.out]
    have U := hid (((Upd.refl (fun _ => False) w).alloc _).trans u)
    clear u
    go_wp2_with fail
    go_ret
    exact ⟨rfl, U.out⟩
  have ht : txtF e = encE e := if_pos hR
  rw [ht]
  have hlen := enc_len hR hw
  rw [enc_sum] at hlen
  obtain ⟨hs1, hs2⟩ := hR.sp
  have HS2 := hid hs2; have HRT := hid hR
  have i0 : I64 e.author := by have := hR.author; unfold keyP at this; unfold I64; omega
  have i1 : I64 e.seq := by have := hR.seq; unfold I64; omega
  have i2 : I64 e.day := by have := hR.day; unfold dayP at this; unfold I64; omega
  have i4 : I64 e.kind := by have := hR.kind; unfold I64; omega
  have i5 : I64 e.circle := by have := hR.circle; unfold markP at this; unfold I64; omega
  have i6 : I64 e.who := by have := hR.who; unfold keyP at this; unfold I64; omega
  have i11 : I64 (e.spans.length : Int) := by unfold I64; omega
  have I0 := hid i0; have I1 := hid i1; have I2 := hid i2; have I4 := hid i4; have I5 := hid i5; have I6 := hid i6; have I11 := hid i11
  have htx := hR.text
  obtain ⟨q1, q2⟩ := slice_caps hr.knows
  obtain ⟨q3, q4⟩ := slice_caps hr.keys
  obtain ⟨q5, q6⟩ := slice_caps hr.spans
  have HTX := hid htx
  have e2 := preT_last e
  have hpl := fun k => preT_len e k
  rw [enc_sum] at hpl
  obtain ⟨s1, z1⟩ : ∃ x, numE e.author ++ numE e.seq = x := ⟨_, rfl⟩
  have zl1 : s1.length = (numE e.author).length + (numE e.seq).length := by rw [← z1, List.length_append]
  obtain ⟨s2, z2⟩ : ∃ x, s1 ++ numE e.day = x := ⟨_, rfl⟩
  have zl2 : s2.length = (s1).length + (numE e.day).length := by rw [← z2, List.length_append]
  obtain ⟨s3, z3⟩ : ∃ x, s2 ++ numsE e.knows = x := ⟨_, rfl⟩
  have zl3 : s3.length = (s2).length + (numsE e.knows).length := by rw [← z3, List.length_append]
  obtain ⟨s4, z4⟩ : ∃ x, s3 ++ numE e.kind = x := ⟨_, rfl⟩
  have zl4 : s4.length = (s3).length + (numE e.kind).length := by rw [← z4, List.length_append]
  obtain ⟨s5, z5⟩ : ∃ x, s4 ++ numE e.circle = x := ⟨_, rfl⟩
  have zl5 : s5.length = (s4).length + (numE e.circle).length := by rw [← z5, List.length_append]
  obtain ⟨s6, z6⟩ : ∃ x, s5 ++ numE e.who = x := ⟨_, rfl⟩
  have zl6 : s6.length = (s5).length + (numE e.who).length := by rw [← z6, List.length_append]
  obtain ⟨s7, z7⟩ : ∃ x, s6 ++ intE e.n = x := ⟨_, rfl⟩
  have zl7 : s7.length = (s6).length + (intE e.n).length := by rw [← z7, List.length_append]
  obtain ⟨s8, z8⟩ : ∃ x, s7 ++ intE e.m = x := ⟨_, rfl⟩
  have zl8 : s8.length = (s7).length + (intE e.m).length := by rw [← z8, List.length_append]
  obtain ⟨s9, z9⟩ : ∃ x, s8 ++ intE e.ref = x := ⟨_, rfl⟩
  have zl9 : s9.length = (s8).length + (intE e.ref).length := by rw [← z9, List.length_append]
  obtain ⟨s10, z10⟩ : ∃ x, s9 ++ numsE e.keys = x := ⟨_, rfl⟩
  have zl10 : s10.length = (s9).length + (numsE e.keys).length := by rw [← z10, List.length_append]
  obtain ⟨s11, z11⟩ : ∃ x, s10 ++ numE e.spans.length = x := ⟨_, rfl⟩
  have zl11 : s11.length = (s10).length + (numE e.spans.length).length := by rw [← z11, List.length_append]
  have pz : preT e 0 = s11 := by subst z1 z2 z3 z4 z5 z6 z7 z8 z9 z10 z11; unfold preT; simp [List.append_assoc]
  have Z1 := hid z1
  have Z2 := hid z2
  have Z3 := hid z3
  have Z4 := hid z4
  have Z5 := hid z5
  have Z6 := hid z6
  have Z7 := hid z7
  have Z8 := hid z8
  have Z9 := hid z9
  have Z10 := hid z10
  have Z11 := hid z11
  have za1 : ∀ w, (Op.stringOp .add ⟨(numE e.author).toArray⟩ ⟨(numE e.seq).toArray⟩).run Tryz.prog w = .ok (.string ⟨s1.toArray⟩) w := fun w => by rw [← Z1.out]; exact add_lists _ _ (by have := Z1.out; omega) w
  have za2 : ∀ w, (Op.stringOp .add ⟨(s1).toArray⟩ ⟨(numE e.day).toArray⟩).run Tryz.prog w = .ok (.string ⟨s2.toArray⟩) w := fun w => by rw [← Z2.out]; exact add_lists _ _ (by have := Z2.out; omega) w
  have za3 : ∀ w, (Op.stringOp .add ⟨(s2).toArray⟩ ⟨(numsE e.knows).toArray⟩).run Tryz.prog w = .ok (.string ⟨s3.toArray⟩) w := fun w => by rw [← Z3.out]; exact add_lists _ _ (by have := Z3.out; omega) w
  have za4 : ∀ w, (Op.stringOp .add ⟨(s3).toArray⟩ ⟨(numE e.kind).toArray⟩).run Tryz.prog w = .ok (.string ⟨s4.toArray⟩) w := fun w => by rw [← Z4.out]; exact add_lists _ _ (by have := Z4.out; omega) w
  have za5 : ∀ w, (Op.stringOp .add ⟨(s4).toArray⟩ ⟨(numE e.circle).toArray⟩).run Tryz.prog w = .ok (.string ⟨s5.toArray⟩) w := fun w => by rw [← Z5.out]; exact add_lists _ _ (by have := Z5.out; omega) w
  have za6 : ∀ w, (Op.stringOp .add ⟨(s5).toArray⟩ ⟨(numE e.who).toArray⟩).run Tryz.prog w = .ok (.string ⟨s6.toArray⟩) w := fun w => by rw [← Z6.out]; exact add_lists _ _ (by have := Z6.out; omega) w
  have za7 : ∀ w, (Op.stringOp .add ⟨(s6).toArray⟩ ⟨(intE e.n).toArray⟩).run Tryz.prog w = .ok (.string ⟨s7.toArray⟩) w := fun w => by rw [← Z7.out]; exact add_lists _ _ (by have := Z7.out; omega) w
  have za8 : ∀ w, (Op.stringOp .add ⟨(s7).toArray⟩ ⟨(intE e.m).toArray⟩).run Tryz.prog w = .ok (.string ⟨s8.toArray⟩) w := fun w => by rw [← Z8.out]; exact add_lists _ _ (by have := Z8.out; omega) w
  have za9 : ∀ w, (Op.stringOp .add ⟨(s8).toArray⟩ ⟨(intE e.ref).toArray⟩).run Tryz.prog w = .ok (.string ⟨s9.toArray⟩) w := fun w => by rw [← Z9.out]; exact add_lists _ _ (by have := Z9.out; omega) w
  have za10 : ∀ w, (Op.stringOp .add ⟨(s9).toArray⟩ ⟨(numsE e.keys).toArray⟩).run Tryz.prog w = .ok (.string ⟨s10.toArray⟩) w := fun w => by rw [← Z10.out]; exact add_lists _ _ (by have := Z10.out; omega) w
  have za11 : ∀ w, (Op.stringOp .add ⟨(s10).toArray⟩ ⟨(numE e.spans.length).toArray⟩).run Tryz.prog w = .ok (.string ⟨s11.toArray⟩) w := fun w => by rw [← Z11.out]; exact add_lists _ _ (by have := Z11.out; omega) w
  have HLK : Hid ((listE intE e.knows).length ≤ 50000000) := hid (by have := nums_list_le e.knows; omega)
  have HLY : Hid ((listE intE e.keys).length ≤ 50000000) := hid (by have := nums_list_le e.keys; omega)
  have PZ := hid pz; have HE2 := hid e2; have HPL := hid hpl; have HLEN := hid hlen
  obtain ⟨W0, hW0⟩ : ∃ W0, W0 = w.alloc (.cells (en13 e a1 a2 a3 c1 c2 c3) 25 (0, 0)) := ⟨_, rfl⟩
  have hb : W0.heap[w.heap.size]? = some (.cells (en13 e a1 a2 a3 c1 c2 c3) 25 (0, 0)) := by rw [hW0]; exact heap_alloc_new
  have u0 : Upd (fun _ => False) w W0 := by rw [hW0]; exact (Upd.refl _ _).alloc _
  have HB := hid hb; have U := hid u0; have HW0 := hid hW0
  clear hr hR hw ht pz e2 hpl hlen hs2 i0 i1 i2 i4 i5 i6 i11 htx hW0 hb u0 z1 zl1 Z1 z2 zl2 Z2 z3 zl3 Z3 z4 zl4 Z4 z5 zl5 Z5 z6 zl6 Z6 z7 zl7 Z7 z8 zl8 Z8 z9 zl9 Z9 z10 zl10 Z10 z11 zl11 Z11
  unfold enV
  go_enter Tryz.func17, Tryz.ntmps17
  go_wp2_with fail
  have hW := HW0.out
  unfold en13 at hW
  rw [← hW]
  clear hW HW0
  refine (rright_any e a1 a2 a3 c1 c2 c3 (· < w.heap.size) _ (HR.out.keep U.out)).mono ?_
  rintro en wR ⟨rfl, u⟩
  rw [decide_eq_true HRT.out]
  have hb := (u.block _ (heap_lt HB.out) id).trans HB.out
  have UR := hid (U.out.trans u)
  have HBR := hid hb
  clear u
  go_wp2_with fail
  have hk : ∀ p : UW wR, Calls Tryz.prog 81 #[.slice a1 e.knows.length c1] p.w fun e' w' => e' = .returned (.string ⟨(numsE e.knows).toArray⟩) ∧ Upd (fun _ => False) p.w w' := fun p => qNums_any _ e.knows _ (rep_keep HR.out.knows (UR.out.trans p.u)) HWF.out.knows.2 HLK.out
  obtain ⟨d0, d1, d2, d3, _, _, _, _, _, _, _, _, _⟩ := cells13 hb
  have e0 := fun p : UW wR => p.cell d0
  have e1 := fun p : UW wR => p.cell d1
  have e2 := fun p : UW wR => p.cell d2
  have e3 := fun p : UW wR => p.cell d3
  refine region_upd (by kernel_rfl) (by kernel_rfl) ?_
  repeat (go_big_quiet_step ((first | (go_at_call 80; with_reducible exact Calls.upd_of (qNum_any e.author I0.out _)) | (go_at_call 80; with_reducible exact Calls.upd_of (qNum_any e.seq I1.out _)) | (go_at_call 80; with_reducible exact Calls.upd_of (qNum_any e.day I2.out _)) | (go_at_call 81; with_reducible exact Calls.upd_of (hk _)))))
  refine wpQuiet_nil ?_
  intro w4 hw1
  obtain ⟨pw, hpw⟩ := hw1
  have uq : Upd (fun _ => False) wR w4 := by rw [hpw]; exact pw.u
  clear hpw pw d0 e0 d1 e1 d2 e2 d3 e3
  clear hk
  have hb := (uq.block _ (heap_lt hb) id).trans hb
  have UN := hid (UR.out.trans uq)
  obtain ⟨wA, hW⟩ : ∃ z, z = w4 := ⟨_, rfl⟩
  subst hW
  replace UR := UN
  clear uq UN
  clear za1 za2 za3
  go_wp2_with fail
  obtain ⟨_, _, _, _, d4, d5, d6, _, _, _, _, _, _⟩ := cells13 hb
  have e4 := fun p : UW wA => p.cell d4
  have e5 := fun p : UW wA => p.cell d5
  have e6 := fun p : UW wA => p.cell d6
  refine region_upd (by kernel_rfl) (by kernel_rfl) ?_
  repeat (go_big_quiet_step ((first | (go_at_call 80; with_reducible exact Calls.upd_of (qNum_any e.kind I4.out _)) | (go_at_call 80; with_reducible exact Calls.upd_of (qNum_any e.circle I5.out _)) | (go_at_call 80; with_reducible exact Calls.upd_of (qNum_any e.who I6.out _)))))
  refine wpQuiet_nil ?_
  intro w4 hw1
  obtain ⟨pw, hpw⟩ := hw1
  have uq : Upd (fun _ => False) wA w4 := by rw [hpw]; exact pw.u
  clear hpw pw d4 e4 d5 e5 d6 e6
  have hb := (uq.block _ (heap_lt hb) id).trans hb
  have UN := hid (UR.out.trans uq)
  obtain ⟨wB, hW⟩ : ∃ z, z = w4 := ⟨_, rfl⟩
  subst hW
  replace UR := UN
  clear uq UN
  clear za4 za5 za6
  go_wp2_with fail
  have hk : ∀ p : UW wB, Calls Tryz.prog 81 #[.slice a2 e.keys.length c2] p.w fun e' w' => e' = .returned (.string ⟨(numsE e.keys).toArray⟩) ∧ Upd (fun _ => False) p.w w' := fun p => qNums_any _ e.keys _ (rep_keep HR.out.keys (UR.out.trans p.u)) HWF.out.keys.2 HLY.out
  obtain ⟨_, _, _, _, _, _, _, d7, d8, d9, d10, d11, _⟩ := cells13 hb
  have e7 := fun p : UW wB => p.cell d7
  have e8 := fun p : UW wB => p.cell d8
  have e9 := fun p : UW wB => p.cell d9
  have e10 := fun p : UW wB => p.cell d10
  have e11 := fun p : UW wB => p.cell d11
  refine region_upd (by kernel_rfl) (by kernel_rfl) ?_
  repeat (go_big_quiet_step ((first | (go_at_call 82; with_reducible exact Calls.upd_of (qInt_any e.n HWF.out.n _)) | (go_at_call 82; with_reducible exact Calls.upd_of (qInt_any e.m HWF.out.m _)) | (go_at_call 82; with_reducible exact Calls.upd_of (qInt_any e.ref HWF.out.ref _)) | (go_at_call 81; with_reducible exact Calls.upd_of (hk _)) | (go_at_call 80; with_reducible exact Calls.upd_of (qNum_any (e.spans.length : Int) I11.out _)))))
  refine wpQuiet_nil ?_
  intro w4 hw1
  obtain ⟨pw, hpw⟩ := hw1
  have uq : Upd (fun _ => False) wB w4 := by rw [hpw]; exact pw.u
  clear hpw pw d7 e7 d8 e8 d9 e9 d10 e10 d11 e11
  clear hk
  have hb := (uq.block _ (heap_lt hb) id).trans hb
  have UN := hid (UR.out.trans uq)
  obtain ⟨wC, hW⟩ : ∃ z, z = w4 := ⟨_, rfl⟩
  subst hW
  replace UR := UN
  clear uq UN
  clear za7 za8 za9 za10 za11
  have HB0 := hid hb
  rw [← PZ.out]
  clear PZ hb I0 I1 I2 I4 I5 I6 I11 HB HBR
  go_wp2_with fail
  go_loopg [3, 4] e.spans.length (fun gg s3 s4 wr => ∃ k : Nat, k ≤ e.spans.length ∧ gg = e.spans.length - k ∧ s4 = .int .i64 k ∧ s3 = .string ⟨(preT e k).toArray⟩ ∧ Upd (fun _ => False) wC wr)
  case atStart => exact ⟨0, Nat.zero_le _, rfl, rfl, rfl, Upd.refl _ _⟩
  case round =>
    obtain ⟨k, hk, hg, rfl, rfl, u⟩ := hrel
    have HG := hid hg; have UU := hid u
    have hb := (u.block _ (heap_lt HB0.out) id).trans HB0.out
    have HBW := hid hb
    have hpk := HPL.out k
    have hlen := HLEN.out
    obtain ⟨_, _, _, _, _, _, _, _, _, _, _, d11, d12⟩ := cells13 hb
    clear hg u
    by_cases hlt : k < e.spans.length
    case neg =>
      obtain rfl : k = e.spans.length := by omega
      have ya : ∀ w, (Op.stringOp .add ⟨(preT e e.spans.length).toArray⟩ ⟨(textE e.text).toArray⟩).run Tryz.prog w = .ok (.string ⟨(encE e).toArray⟩) w := fun w => by rw [← HE2.out]; exact add_lists _ _ (by omega) w
      clear hb hpk hlen
      go_wp2_with (go_at_call 83; refine (qText_any e.text (Nat.le_trans HTX.out (by decide)) _).mono ?_; rintro ex wx ⟨rfl, u⟩; have UT := hid u; clear u d11 d12)
      go_ret
      exact ⟨rfl, (UR.out.trans UU.out).trans UT.out⟩
    have hlti : (k : Int) < e.spans.length := by omega
    have hk1 : (k : Int) + 1 ≤ 1000 := by omega
    have hsp := HR.out.spans
    obtain ⟨b, o, hae, hbA, hel⟩ := slice_at hsp (by omega)
    obtain ⟨wfs, m0, m1, m2⟩ := sp_cells hel hlt
    have hbl : b < w.heap.size := World.block_lt_of_cell? _ _ m0
    have uz := UR.out.trans UU.out
    have m0 := cell_kept m0 (uz.block b hbl id)
    have m1 := cell_kept m1 (uz.block b hbl id)
    have m2 := cell_kept m2 (uz.block b hbl id)
    have hps := preT_succ e hlt
    have hp1 := HPL.out (k + 1)
    have oks := HS2.out _ (List.getElem_mem hlt)
    subst hae
    clear hel hsp uz
    obtain ⟨x, hx⟩ : ∃ x, e.spans[k] = x := ⟨_, rfl⟩
    rw [hx] at m0 m1 m2 hps wfs
    have x0 := hid (show I64 x.mark from wfi wfs.mark); have x1 := hid (show I64 x.fr from wfi wfs.fr); have x2 := hid (show I64 x.to from wfi wfs.upto)
    obtain ⟨P, hP⟩ : ∃ P, preT e k = P := ⟨_, rfl⟩
    rw [hP] at hps hpk ⊢
    obtain ⟨g1, y1⟩ : ∃ g, P ++ numE x.mark = g := ⟨_, rfl⟩
    obtain ⟨g2, y2⟩ : ∃ g, g1 ++ numE x.fr = g := ⟨_, rfl⟩
    have y3 : g2 ++ numE x.to = preT e (k + 1) := by rw [hps, ← y2, ← y1]; unfold spanE; simp [List.append_assoc]
    have yl1 : g1.length = P.length + (numE x.mark).length := by rw [← y1, List.length_append]
    have yl2 : g2.length = g1.length + (numE x.fr).length := by rw [← y2, List.length_append]
    have yl3 : (preT e (k + 1)).length = g2.length + (numE x.to).length := by rw [← y3, List.length_append]
    have Y1 := hid y1; have Y2 := hid y2; have Y3 := hid y3
    have ya1 : ∀ w, (Op.stringOp .add ⟨P.toArray⟩ ⟨(numE x.mark).toArray⟩).run Tryz.prog w = .ok (.string ⟨g1.toArray⟩) w := fun w => by rw [← Y1.out]; exact add_lists _ _ (by omega) w
    have ya2 : ∀ w, (Op.stringOp .add ⟨g1.toArray⟩ ⟨(numE x.fr).toArray⟩).run Tryz.prog w = .ok (.string ⟨g2.toArray⟩) w := fun w => by rw [← Y2.out]; exact add_lists _ _ (by omega) w
    have ya3 : ∀ w, (Op.stringOp .add ⟨g2.toArray⟩ ⟨(numE x.to).toArray⟩).run Tryz.prog w = .ok (.string ⟨(preT e (k + 1)).toArray⟩) w := fun w => by rw [← Y3.out]; exact add_lists _ _ (by omega) w
    clear hps hp1 hx hP y1 y2 y3 yl1 yl2 yl3 Y1 Y2 Y3 wfs oks hpk hlen hb d12
    go_wp2_with fail
    have ed := fun p : UW wr => p.cell d11
    have em0 := fun p : UW wr => p.cell m0
    have em1 := fun p : UW wr => p.cell m1
    have em2 := fun p : UW wr => p.cell m2
    refine region_upd (by kernel_rfl) (by kernel_rfl) ?_
    repeat (go_big_quiet_step ((first | (go_at_call 80; with_reducible exact Calls.upd_of (qNum_any x.mark x0.out _)) | (go_at_call 80; with_reducible exact Calls.upd_of (qNum_any x.fr x1.out _)) | (go_at_call 80; with_reducible exact Calls.upd_of (qNum_any x.to x2.out _)))))
    refine wpQuiet_nil ?_
    intro w4 hw1
    obtain ⟨pw, hpw⟩ := hw1
    have uq : Upd (fun _ => False) wr w4 := by rw [hpw]; exact pw.u
    have U4 := hid (UU.out.trans uq)
    clear hpw pw ed em0 em1 em2 ya1 ya2 ya3 uq d11 m0 m1 m2
    go_wp2_with fail
    go_roundg (e.spans.length - (k + 1))
    case measure => have := HG.out; omega
    case rel => exact ⟨k + 1, by omega, rfl, by go_num, rfl, U4.out⟩
end Go.Proofs.YtdcahnkcnbhknaaGreatDoor
