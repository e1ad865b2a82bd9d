/- Walks: ReconGives. -/
import Derived.Test.YtjkmalddfoemhaaGreatDoorCRcSmall
import Derived.Test.YtjkmalddfoemhaaGreatDoorJ23
import Derived.Test.YtjkmalddfoemhaaGreatDoorJ22
import Derived.Test.YtjkmalddfoemhaaGreatDoorJ14
namespace Go.Proofs.YtjkmalddfoemhaaGreatDoor
open Go.RowKit Go.Deep

set_option maxRecDepth 100000 in
set_option maxHeartbeats 16000000 in
theorem gives_walk (v : Value) (l : List Po) (one two bud : Int) (w : World) (hbud : I64 bud) (E : Env w) (hu : UsesIn w) (hz : 6 ≤ w.heap.size) (h : kPos.rep (· < w.heap.size) w [v] l) : Calls Tryz.prog 5 #[v, .int .i64 one, .int .i64 two, .int .i64 bud] w fun e w' => e = .returned (.bool true) ∧ Upd (fun _ => False) w w' := by
  have HBUD := hid hbud
  clear hbud
  have HE := hid E; have HU := hid hu; have HZ := hid hz
  have HP0 := hid h
  obtain ⟨av, cv, rfl, _, hcv, _⟩ := slice_open h
  clear E hu hz h
  go_enter Tryz.func5, Tryz.ntmps5
  go_wp2_with fail
  refine (rcsmall_any w HE.out HU.out HZ.out).mono ?_
  rintro en x0 ⟨rfl, u⟩
  have U0 := hid u
  have HP := hid (kPos.mono (kPos.keep HP0.out (Same.of_upd u fun _ _ => id)) fun g hg => (Nat.lt_of_lt_of_le hg u.size : g < x0.heap.size))
  clear u HP0
  go_wp2_with fail
  refine (fewL_any _ _ l 14 _ HP.out (by decide)).mono ?_
  rintro en x1 ⟨rfl, u⟩
  by_cases hf : FewL l 14
  case neg =>
    rw [decide_eq_false hf]
    have U1 := hid (U0.out.trans u)
    clear u
    go_wp2_with fail
    go_ret
    exact ⟨rfl, U1.out⟩
  rw [decide_eq_true hf]
  replace U0 := hid (U0.out.trans u)
  replace HP := hid (kPos.mono (kPos.keep HP.out (Same.of_upd u fun _ _ => id)) fun g hg => (Nat.lt_of_lt_of_le hg u.size : g < x1.heap.size))
  have HF := hid hf
  clear u hf
  go_wp2_with fail
  refine (play_any _ l _ (HE.out.keep0 U0.out) (HU.out.keep U0.out) HP.out (by have := HF.out.1; omega) ⟨Nat.le_refl _, HF.out.2⟩ (Nat.le_trans HZ.out U0.out.size)).mono ?_
  rintro en x2 ⟨r, vs, b, O, Or, rfl, PA⟩
  obtain ⟨hs, hhs⟩ : ∃ hs, playF l = hs := ⟨_, rfl⟩
  obtain ⟨R, hR⟩ : ∃ R, (signedF l).1 = R := ⟨_, rfl⟩
  have HH := hid (show HPre x2 O Or b r hs R by rw [← hhs, ← hR]; exact PA.pre)
  have HO := hid (show ∀ k, O k → w.heap.size ≤ k from fun k hk => Nat.le_trans U0.out.size (PA.own k hk))
  have UX := hid (U0.out.trans PA.upd)
  have RL := hid (show R.length ≤ 4000 from Nat.le_trans HH.out.few (by decide))
  have MI := hid (fun x (hx : x ∈ marksF hs) => (show I64 x from by have := marks_small HH.out.plain hx; have := HH.out.few; unfold I64; omega))
  have ML := hid (show (marksF hs).length ≤ 1000 by rw [marksF_len]; have := HH.out.plain.len; have := HH.out.few; omega)
  clear PA hhs hR HF HP U0
  go_wp2_with fail
  refine (hmarks_any HH.out.his).mono ?_
  rintro en za1 ⟨vm, rfl, ho, u⟩
  have MR := hid (ints_rep ho MI.out)
  replace HH := hid (HH.out.keep u); replace UX := hid (UX.out.trans u)
  clear ho u
  go_wp2_with fail
  refine (some12_any _ _ _ one _ MR.out (fun g hg => hg.2) ML.out).mono ?_
  rintro en za2 ⟨l1, hsub, v1, rfl, ho, u⟩
  have R1 := hid (ints_rep ho fun x hx => MI.out x (hsub x hx))
  replace HH := hid (HH.out.keep u); replace UX := hid (UX.out.trans u)
  clear ho u hsub MR
  go_wp2_with fail
  refine (hrestrict_any HH.out _ _ l1 R1.out).mono ?_
  rintro en za3 ⟨b1, O1, rfl, q1, q2, u⟩
  have H1 := hid (HH.out.made u q1 (restrict_ok HH.out.plain RL.out l1).1 q2)
  have W1 := hid (show ∀ k, O1 k → w.heap.size ≤ k from fun k hk => Nat.le_trans UX.out.size (q2 k hk))
  replace HH := hid (HH.out.keep u); replace UX := hid (UX.out.trans u)
  obtain ⟨g1, hg1⟩ : ∃ g, restrictF rdF R hs l1 = g := ⟨_, rfl⟩
  rw [hg1] at H1
  clear q1 q2 u R1 hg1
  go_wp2_with fail
  refine (hmarks_any HH.out.his).mono ?_
  rintro en zb1 ⟨vm, rfl, ho, u⟩
  have MR := hid (ints_rep ho MI.out)
  replace HH := hid (HH.out.keep u); replace UX := hid (UX.out.trans u)
  replace H1 := hid (H1.out.keep u)
  clear ho u
  go_wp2_with fail
  refine (some12_any _ _ _ two _ MR.out (fun g hg => hg.2) ML.out).mono ?_
  rintro en zb2 ⟨l2, hsub, v2, rfl, ho, u⟩
  have R2 := hid (ints_rep ho fun x hx => MI.out x (hsub x hx))
  replace HH := hid (HH.out.keep u); replace UX := hid (UX.out.trans u)
  replace H1 := hid (H1.out.keep u)
  clear ho u hsub MR
  go_wp2_with fail
  refine (hrestrict_any HH.out _ _ l2 R2.out).mono ?_
  rintro en zb3 ⟨b2, O2, rfl, q1, q2, u⟩
  have H2 := hid (HH.out.made u q1 (restrict_ok HH.out.plain RL.out l2).1 q2)
  have D12 := hid (show ∀ k, O1 k → ¬ O2 k from fun k hk hk2 => by have := (H1.out.his.lt k hk).2; have := q2 k hk2; omega)
  have W2 := hid (show ∀ k, O2 k → w.heap.size ≤ k from fun k hk => Nat.le_trans UX.out.size (q2 k hk))
  replace HH := hid (HH.out.keep u); replace UX := hid (UX.out.trans u)
  replace H1 := hid (H1.out.keep u)
  obtain ⟨g2, hg2⟩ : ∃ g, restrictF rdF R hs l2 = g := ⟨_, rfl⟩
  rw [hg2] at H2
  clear q1 q2 u R2 hg2
  clear HH HO ML MI
  have RL60 := hid H1.out.few
  have A := hid H1.out.plain; have B := hid H2.out.plain
  have WH := hid (give_whole H1.out.plain H2.out.plain H1.out.few)
  have TOK := hid (gv_ok H1.out.plain H2.out.plain H1.out.gnd.ring.ok H1.out.few)
  have TL := hid (show (gvT g1 g2).length ≤ 60 from Nat.le_trans (gvT_few (b := g2) H1.out.plain) (Nat.le_trans H1.out.plain.len H1.out.few))
  have GO := hid (fun (j : Nat) (hj : j < (gvT g1 g2).length) => gv_take H1.out.plain H2.out.plain H1.out.gnd.ring.ok H1.out.few hj)
  have GEND := hid (gv_end H1.out.plain H2.out.plain H1.out.few)
  have GHIS := hid (fun j => giveTo_his (rd := rdF) (R := R) (a := g1) H2.out.plain j)
  have OBB := hid (offer_bytes H2.out.plain H2.out.few)
  have SGB := hid (show I64 (bytesL (sgTexts g1 (marksF g1))) from by
    have q := bytesTo_le (l := sgTexts g1 (marksF g1)) (by unfold sgTexts; rw [List.length_map, marksF_len]; have := H1.out.plain.len; have := H1.out.few; omega) (fun t ht => by
      obtain ⟨m, hm, rfl⟩ := List.mem_map.1 ht
      have := sgE_len H1.out.plain H1.out.gnd.ring.ok (Nat.le_trans H1.out.few (by decide)) ((mem_marksF g1 m).1 hm)
      omega) (sgTexts g1 (marksF g1)).length
    rw [List.take_length] at q
    unfold I64; omega)
  have ZERO := hid (show (readO MM (offerF g2)).2 = 0 by rw [offer_read H2.out.plain (Nat.le_trans H2.out.few (by decide))])
  obtain ⟨j, j1, j2, j3, j4⟩ := give_part (a := g1) H2.out.plain H2.out.few bud
  obtain ⟨T, hT⟩ : ∃ T, gvT g1 g2 = T := ⟨_, rfl⟩
  rw [hT] at WH TOK TL GO GEND j1 j2 j3
  have j4 : ∀ (hj : j < T.length), bud < bytesL (T.take j) + (T[j].length : Int) := by subst hT; exact j4
  have J2 := hid j2; have J3 := hid j3; have J4 := hid j4; have J1 := hid j1
  have TB := hid (bytesTo_le TL.out fun t ht => (TOK.out t ht).1)
  clear j1 j2 j3 j4 hT
  go_wp2_with fail
  refine (longest_any H1.out).mono ?_
  rintro en y1 ⟨⟨xx, rfl⟩, u⟩
  replace H1 := hid (H1.out.keep u); replace H2 := hid (H2.out.keep u); replace UX := hid (UX.out.trans u)
  clear u
  obtain ⟨byt, hbyt⟩ : ∃ x, bytesL (sgTexts g1 (marksF g1)) = x := ⟨_, rfl⟩
  rw [hbyt] at WH SGB ⊢
  clear hbyt
  go_wp2_with fail
  refine (offer_any H2.out).mono ?_
  rintro en y2 ⟨rfl, u⟩
  replace H1 := hid (H1.out.keep u); replace H2 := hid (H2.out.keep u); replace UX := hid (UX.out.trans u)
  have LO2 := hid (show ∀ k, O2 k → k < y2.heap.size from fun k hk => (H2.out.his.lt k hk).2)
  clear u
  go_wp2_with fail
  refine (give_any H1.out (offerF g2) (by have := OBB.out; omega) bud HBUD.out).mono ?_
  rintro en y3 ⟨v3, rfl, ho, u⟩
  rw [J2.out] at ho
  rw [ZERO.out]
  have RT := hid ho
  replace H1 := hid (H1.out.keep u); replace H2 := hid (H2.out.keep u); replace UX := hid (UX.out.trans u)
  have S24 := hid u.size
  clear ho u
  go_wp2_with fail
  refine (offer_any H2.out).mono ?_
  rintro en y4 ⟨rfl, u⟩
  replace H1 := hid (H1.out.keep u); replace H2 := hid (H2.out.keep u); replace UX := hid (UX.out.trans u)
  replace RT := hid (ownsRow_upd RT.out u fun _ _ => id : TxsAt y4 y2.heap.size v3 (T.take j))
  replace S24 := hid (Nat.le_trans S24.out u.size)
  clear u
  go_wp2_with fail
  refine (give_any H1.out (offerF g2) (by have := OBB.out; omega) byt SGB.out).mono ?_
  rintro en y5 ⟨v5, rfl, ho, u⟩
  rw [WH.out] at ho
  rw [ZERO.out]
  have RE := hid ho
  replace H1 := hid (H1.out.keep u); replace H2 := hid (H2.out.keep u); replace UX := hid (UX.out.trans u)
  replace RT := hid (ownsRow_upd RT.out u fun _ _ => id : TxsAt y5 y2.heap.size v3 (T.take j))
  have G3 := hid (show ∀ g, v3.ownBlock = some g → y2.heap.size ≤ g ∧ g < y5.heap.size from fun g hg => txs_lt RT.out g hg)
  have G5 := hid (show ∀ g, v5.ownBlock = some g → y2.heap.size ≤ g ∧ g < y5.heap.size from fun g hg => by
    obtain ⟨q1, q2⟩ := txs_lt RE.out g hg
    exact ⟨Nat.le_trans S24.out q1, q2⟩)
  obtain ⟨a3, c3, rfl, h31, h32⟩ := own_slice RT.out
  have h32 : c3 ≤ 9223372036854775807 := h32
  obtain ⟨a5, c5, rfl, h51, h52⟩ := own_slice RE.out
  have h52 : c5 ≤ 9223372036854775807 := h52
  have hlt : (T.take j).length = j := by rw [List.length_take]; have := J1.out; omega
  obtain ⟨N, hN⟩ : ∃ N, T.length = N := ⟨_, rfl⟩
  have HN := hid hN
  have hN60 : N ≤ 60 := by rw [← hN]; exact TL.out
  have hjN : j ≤ N := by rw [← hN]; exact J1.out
  have hjNi : ¬ (N : Int) < (j : Int) := by omega
  have hjNd : decide ((N : Int) < (j : Int)) = false := decide_eq_false hjNi
  have W5 := hid (show w.heap.size ≤ y5.heap.size from UX.out.size)
  have BW := hid (show ∀ k, O2 k → w.heap.size ≤ k from W2.out)
  have START := hid (show ∃ O2', HPre y5 O2' Or b2 r (giveTo rdF R g1 g2 0) R ∧ HPre y5 O1 Or b1 r g1 R ∧ (∀ k, O1 k → ¬ O2' k) ∧ (∀ k, O2' k → O2 k ∨ y5.heap.size ≤ k) ∧ TxsAt y5 y2.heap.size (.slice a3 (T.take j).length c3) (T.take j) ∧ TxsAt y5 y4.heap.size (.slice a5 T.length c5) T ∧ Upd (fun _ => False) w y5 ∧ y5.heap.size ≤ y5.heap.size from ⟨O2, H2.out, H1.out, D12.out, fun k hk => .inl hk, RT.out, RE.out, UX.out, Nat.le_refl _⟩)
  rw [hlt] at h31 G3 START ⊢
  rw [hN] at h51 G5 START ⊢
  clear ho u hlt hN H1 H2 RT RE UX D12 W1 W2 S24 WH J2 OBB SGB ZERO
  have nNj : ¬ N < j := by omega
  have dNj : decide (N < j) = false := decide_eq_false nNj
  go_wp2_with (first | go_quiet (fail) | fail)
  go_loopg [20, 21, 22] j (fun gg su si _ wr => ∃ k : Nat, k ≤ j ∧ gg = j - k ∧ si = .int .i64 k ∧ su = .int .i64 (sizeTo T k) ∧ ∃ O2', HPre wr O2' Or b2 r (giveTo rdF R g1 g2 k) R ∧ HPre wr O1 Or b1 r g1 R ∧ (∀ k, O1 k → ¬ O2' k) ∧ (∀ k, O2' k → O2 k ∨ y5.heap.size ≤ k) ∧ TxsAt wr y2.heap.size (.slice a3 j c3) (T.take j) ∧ TxsAt wr y4.heap.size (.slice a5 N c5) T ∧ Upd (fun _ => False) w wr ∧ y5.heap.size ≤ wr.heap.size)
  case atStart => first | exact ⟨0, Nat.zero_le _, rfl, rfl, rfl, START.out⟩ | (obtain ⟨P, p1, p2, p3, p4, p5, p6, p7, p8⟩ := START.out; exact ⟨0, Nat.zero_le _, rfl, rfl, rfl, P, p1.keep ((Upd.refl _ _).drew), p2.keep ((Upd.refl _ _).drew), p3, p4, ownsRow_upd p5 ((Upd.refl (fun _ => False) _).drew) fun _ _ => id, ownsRow_upd p6 ((Upd.refl (fun _ => False) _).drew) fun _ _ => id, p7.drew, p8⟩)
  case round =>
    obtain ⟨k, hk, hg, rfl, rfl, O2', q1, q2, q3, q4, q5, q6, q7, q8⟩ := hrel
    have HG := hid hg; have HB := hid q1; have HA := hid q2; have HD := hid q3; have NW := hid q4; have RT := hid q5; have RE := hid q6; have UX := hid q7; have SZ := hid q8
    clear hg q1 q2 q3 q4 q5 q6 q7 q8 START
    by_cases hlt : k < j
    case pos =>
      as_aux_lemma =>
      have hlti : (k : Int) < j := by omega
      have hltN : (k : Int) < N := by omega
      have hk1 : (k : Int) + 1 ≤ 1000 := by omega
      have hkl : k < T.length := by rw [HN.out]; omega
      have hkt : k < (T.take j).length := by rw [List.length_take]; omega
      have ET : (T.take j)[k] = T[k] := List.getElem_take ..
      obtain ⟨gt, ct, e0, _, _, _, _, hc⟩ := TxsAt.get RT.out (by omega)
      have e1 : a3 = some ⟨gt, 0, none⟩ := by injection e0
      obtain ⟨ge, ce, e2, _, _, _, _, hd⟩ := TxsAt.get RE.out (by omega)
      have e3 : a5 = some ⟨ge, 0, none⟩ := by injection e2
      subst e1 e3
      have m0 := hc k hkt
      rw [ET] at m0
      have m1 := hd k hkl
      have ST := hid (sizeTo_succ hkl)
      have TK := hid (TOK.out _ (List.getElem_mem hkl))
      obtain ⟨z0, z1⟩ := TB.out k
      have STEP := hid (GO.out k hkl)
      obtain ⟨t, ht⟩ : ∃ t, T[k] = t := ⟨_, rfl⟩
      rw [ht] at m0 m1 ST TK STEP
      have tl := TK.out.1
      obtain ⟨z, hz⟩ : ∃ z, sizeTo T k = z := ⟨_, rfl⟩
      have z0 : 0 ≤ z := by rw [← hz]; exact z0
      have z1 : z ≤ 66000000 := by rw [← hz]; exact z1
      rw [hz] at ST ⊢
      have s0 : z + (t.length : Int) ≤ 9223372036854775807 := by omega
      have s1 : -9223372036854775808 ≤ z + (t.length : Int) := by omega
      obtain ⟨L0, hL0⟩ : ∃ L, (giveTo rdF R g1 g2 k).length = L := ⟨_, rfl⟩
      obtain ⟨L1, hL1⟩ : ∃ L, (giveTo rdF R g1 g2 (k + 1)).length = L := ⟨_, rfl⟩
      have hl60 : L0 ≤ 60 := by rw [← hL0]; exact Nat.le_trans HB.out.plain.len RL60.out
      have hLL : L1 = L0 + 1 := by rw [← hL0, ← hL1]; exact STEP.out.2
      have hLi : (L0 : Int) + 1 = (L1 : Int) := by omega
      have hLb : (L0 : Int) + 1 ≤ 1000 := by omega
      have hLc : (L1 : Int) ≤ 1000 := by omega
      have tLL : ((L1 : Int) == (L1 : Int)) = true := beq_self_eq_true _
      have HL0 := hid hL0; have HL1 := hid hL1
      clear hc hd ht e0 e2 hz ET hL0 hL1 hLL
      go_wp2_with fail
      refine (hlen_any HB.out.his).mono ?_
      rintro en yy ⟨rfl, rfl⟩
      rw [HL0.out]
      have GTB := hid (World.block_lt_of_cell? _ _ m0); have GEB := hid (World.block_lt_of_cell? _ _ m1)
      have GTN := hid (show ¬ O2' gt from fun e => by
        obtain ⟨z1, z2⟩ := G3.out gt rfl
        rcases NW.out gt e with c | c
        · have := LO2.out gt c; omega
        · omega)
      have GEN := hid (show ¬ O2' ge from fun e => by
        obtain ⟨z1, z2⟩ := G5.out ge rfl
        rcases NW.out ge e with c | c
        · have := LO2.out ge c; omega
        · omega)
      have KEEP := hid (fun (y : World) (u : Upd O2' wr y) => (show y.cell? ⟨gt, k, none⟩ = some (.string ⟨t.toArray⟩) ∧ y.cell? ⟨ge, k, none⟩ = some (.string ⟨t.toArray⟩) from ⟨cell_kept m0 (u.block gt GTB.out GTN.out), cell_kept m1 (u.block ge GEB.out GEN.out)⟩))
      have qV0 := hid ((Upd.refl O2' wr).drew)
      have TKC := hid (show Calls Tryz.prog 26 #[.pointer (some ⟨b2, 0, none⟩), .string ⟨t.toArray⟩] wr.drew (fun e w' => e = .returned (.int .i64 0) ∧ ∃ O', IsHis w' O' b2 r (giveTo rdF R g1 g2 (k + 1)) ∧ (∀ x, O' x → O2' x ∨ wr.heap.size ≤ x) ∧ Upd O2' wr.drew w') from
        (tkR_any (HB.out.keep (Upd.refl (fun _ => False) wr).drew) t (by omega) TK.out.2).mono fun e w' ⟨h1, O', h2, h3, h4⟩ => ⟨by rw [h1, STEP.out.1], O', by rw [STEP.out.1] at h2; exact h2, h3, h4⟩)
      clear m0 m1
      go_upto_region 22 with (fail)
      first | (go_region_held3 (fun y => y.cell? ⟨gt, k, none⟩ = some (.string ⟨t.toArray⟩) ∧ y.cell? ⟨ge, k, none⟩ = some (.string ⟨t.toArray⟩)) (first | with_reducible exact KEEP.out _ qV0.out | with_reducible exact KEEP.out _ qV1.out | go_keep) (first | (go_at_call 26; with_reducible refine TKC.out.mono ?_; rintro en wq1 ⟨rfl, O', q1, q2, q3⟩; have qI := hid q1; have qN := hid q2; have qV1 := hid (qV0.out.trans q3); clear q1 q2 q3) | (go_at_call 37; with_reducible refine (hlen_any qI.out).mono ?_; rintro en wq2 ⟨rfl, rfl⟩; rw [HL1.out]))) | fail
      rw [IntWalk.i64_in (L1 : Int) (by omega)]
      have q1 := qI.out; have q2 := qN.out; have q3 := qV1.out
      clear KEEP qV0 TKC qI qN qV1
      have A1 := hid (HA.out.upd q3 (fun k hk hk' => HD.out k hk hk') HB.out.apart fun k hk => (HB.out.his.lt k hk).1)
      have A2 := hid (HB.out.grown q3 q1 (GHIS.out (k + 1)) q2)
      have T1 := hid (ownsRow_upd RT.out q3 fun j hj e => by
        obtain ⟨z1, z2⟩ := G3.out j hj
        rcases NW.out j e with c | c
        · have := LO2.out j c; omega
        · omega)
      have T2 := hid (ownsRow_upd RE.out q3 fun j hj e => by
        obtain ⟨z1, z2⟩ := G5.out j hj
        rcases NW.out j e with c | c
        · have := LO2.out j c; omega
        · omega)
      have D2 := hid (show ∀ k, O1 k → ¬ O' k from fun k hk hk' => (q2 k hk').elim (fun z => HD.out k hk z) fun z => by have := (HA.out.his.lt k hk).2; omega)
      have V2 := hid (show ∀ k, O' k → O2 k ∨ y5.heap.size ≤ k from fun k hk => (q2 k hk).elim (NW.out k) fun z => .inr (Nat.le_trans SZ.out z))
      have UY := hid (UX.out.comp q3 fun i hi e => by
        rcases NW.out i e with c | c
        · have := BW.out i c; omega
        · have := W5.out; omega)
      have SQ := hid (Nat.le_trans SZ.out q3.size)
      clear q1 q2 q3
      go_wp2_with fail
      go_roundg (j - (k + 1))
      case measure => have := HG.out; omega
      case rel => exact ⟨k + 1, by omega, rfl, by go_num, by rw [ST.out], O', A2.out, A1.out, D2.out, V2.out, T1.out, T2.out, UY.out, SQ.out⟩
    as_aux_lemma =>
    obtain rfl : k = j := by omega
    have hlti : ¬ (k : Int) < k := by omega
    have USED := hid (show sizeTo T k = bytesL (T.take k) from rfl)
    obtain ⟨z0, z1⟩ := TB.out k
    obtain ⟨U, hU⟩ : ∃ U, bytesL (T.take k) = U := ⟨_, rfl⟩
    rw [hU] at z0 z1 J3 J4 USED
    rw [USED.out]
    have START := hid (show ∃ O2', HPre wr O2' Or b2 r (giveTo rdF R g1 g2 k) R ∧ HPre wr O1 Or b1 r g1 R ∧ (∀ k, O1 k → ¬ O2' k) ∧ (∀ k, O2' k → O2 k ∨ y5.heap.size ≤ k) ∧ TxsAt wr y4.heap.size (.slice a5 N c5) T ∧ Upd (fun _ => False) w wr ∧ y5.heap.size ≤ wr.heap.size from ⟨O2', HB.out, HA.out, HD.out, NW.out, RE.out, UX.out, SZ.out⟩)
    have TK1 := hid TOK.out; have REC := hid RE.out
    clear hU HG HB HA HD NW RT UX SZ USED hk hlt
    by_cases cA : 0 < k
    case pos =>
      by_cases cB : k < N
      case pos =>
        as_aux_lemma =>
        have tA : (0 : Int) < (k : Int) := by omega
        have dA : decide ((0 : Int) < (k : Int)) = true := decide_eq_true tA
        have tB : ¬ bud < U := by have := J3.out cA; omega
        have dB : decide (bud < U) = false := decide_eq_false tB
        have tC : (k : Int) < (N : Int) := by omega
        have dC : decide ((k : Int) < (N : Int)) = true := decide_eq_true tC
        have hkl : k < T.length := by rw [HN.out]; exact cB
        obtain ⟨ge, ce, e2, _, _, _, _, hd⟩ := TxsAt.get REC.out (by omega)
        have e3 : a5 = some ⟨ge, 0, none⟩ := by injection e2
        subst e3
        have m1 := hd k hkl
        have j4 := J4.out hkl
        have tl := (TOK.out _ (List.getElem_mem hkl)).1
        obtain ⟨t, ht⟩ : ∃ t, T[k] = t := ⟨_, rfl⟩
        rw [ht] at m1 j4 tl
        have hn1 : (1 : Int) ≤ N := by omega
        have hmin : min (k : Int) ((N : Int) - 1) = (k : Int) := by omega
        have hk0 : (0 : Int) ≤ (k : Int) := by omega
        have s0 : U + (t.length : Int) ≤ 9223372036854775807 := by omega
        have s1 : -9223372036854775808 ≤ U + (t.length : Int) := by omega
        have tD : ¬ U + (t.length : Int) ≤ bud := by omega
        have dD : decide (U + (t.length : Int) ≤ bud) = false := decide_eq_false tD
        clear hd ht e2 hkl
        clear J3 J4 REC TB TK1
        go_wp2_with (first | go_quiet (fail) | fail)
        go_loopg [23] (N - k) (fun gg si wx => ∃ i : Nat, i ≤ N ∧ gg = N - i ∧ si = .int .i64 i ∧ ∃ O2', HPre wx O2' Or b2 r (giveTo rdF R g1 g2 i) R ∧ HPre wx O1 Or b1 r g1 R ∧ (∀ k, O1 k → ¬ O2' k) ∧ (∀ k, O2' k → O2 k ∨ y5.heap.size ≤ k) ∧ TxsAt wx y4.heap.size (.slice (some ⟨ge, 0, none⟩) N c5) T ∧ Upd (fun _ => False) w wx ∧ y5.heap.size ≤ wx.heap.size)
        case atStart => first | exact ⟨k, hjN, rfl, rfl, START.out⟩ | (obtain ⟨P, p1, p2, p3, p4, p6, p7, p8⟩ := START.out; exact ⟨k, hjN, rfl, rfl, P, p1.keep ((Upd.refl _ _).drew), p2.keep ((Upd.refl _ _).drew), p3, p4, ownsRow_upd p6 ((Upd.refl (fun _ => False) _).drew) fun _ _ => id, p7.drew, p8⟩)
        case round =>
          obtain ⟨i, hi, hg, rfl, O3, q1, q2, q3, q4, q6, q7, q8⟩ := hrel
          have HG := hid hg; have HB := hid q1; have HA := hid q2; have HD := hid q3; have NW := hid q4; have RE := hid q6; have UX := hid q7; have SZ := hid q8
          clear hg q1 q2 q3 q4 q6 q7 q8 START
          by_cases hli : i < N
          case pos =>
            as_aux_lemma =>
            have hlii : (i : Int) < N := by omega
            have hi1 : (i : Int) + 1 ≤ 1000 := by omega
            have hil : i < T.length := by rw [HN.out]; exact hli
            obtain ⟨gf, ce, e2, _, _, _, _, hd⟩ := TxsAt.get RE.out (by omega)
            have e3 : some (⟨ge, 0, none⟩ : Addr) = some ⟨gf, 0, none⟩ := by injection e2
            have e4 : ge = gf := by
              injection e3 with e3
              injection e3
            subst e4
            clear e3
            have m1 := hd i hil
            have TK := hid (TOK.out _ (List.getElem_mem hil))
            have STEP := hid (GO.out i hil)
            obtain ⟨t, ht⟩ : ∃ t, T[i] = t := ⟨_, rfl⟩
            rw [ht] at m1 TK STEP
            have tl := TK.out.1
            clear hd ht e2
            go_wp2_with (first | go_quiet (fail) | fail)
            refine (tkR_any HB.out t (by omega) TK.out.2).mono ?_
            rintro en z1 ⟨rfl, O', q1, q2, q3⟩
            rw [STEP.out.1] at q1 ⊢
            dsimp only at q1 ⊢
            have A1 := hid (HA.out.upd q3 (fun k hk hk' => HD.out k hk hk') HB.out.apart fun k hk => (HB.out.his.lt k hk).1)
            have A2 := hid (HB.out.grown q3 q1 (GHIS.out (i + 1)) q2)
            have T2 := hid (ownsRow_upd RE.out q3 fun j hj e => by
              obtain ⟨z1, z2⟩ := G5.out j hj
              rcases NW.out j e with c | c
              · have := LO2.out j c; omega
              · omega)
            have D2 := hid (show ∀ k, O1 k → ¬ O' k from fun k hk hk' => (q2 k hk').elim (fun z => HD.out k hk z) fun z => by have := (HA.out.his.lt k hk).2; omega)
            have V2 := hid (show ∀ k, O' k → O2 k ∨ y5.heap.size ≤ k from fun k hk => (q2 k hk).elim (NW.out k) fun z => .inr (Nat.le_trans SZ.out z))
            have UY := hid (UX.out.comp q3 fun i hi e => by
              rcases NW.out i e with c | c
              · have := BW.out i c; omega
              · have := W5.out; omega)
            have SQ := hid (Nat.le_trans SZ.out q3.size)
            clear q1 q2 q3 m1
            go_wp2_with (first | go_quiet (fail) | fail)
            go_roundg (N - (i + 1))
            case measure => have := HG.out; omega
            case rel => exact ⟨i + 1, by omega, rfl, by go_num, O', A2.out, A1.out, D2.out, V2.out, T2.out, UY.out, SQ.out⟩
          as_aux_lemma =>
          obtain rfl : i = N := by omega
          have hlii : ¬ (i : Int) < i := by omega
          have HB := hid (show HPre wr O3 Or b2 r (giveTo rdF R g1 g2 T.length) R by rw [HN.out]; exact HB.out)
          clear HG NW RE SZ hi hli
          go_wp2_with fail
          refine (hmarks_any HA.out.his).mono ?_
          rintro en x1 ⟨vm, rfl, ho, u⟩
          have R1 := hid (ints_rep ho fun x hx => by have := marks_small HA.out.plain hx; have := HA.out.few; unfold I64; omega)
          replace HA := hid (HA.out.keep u); replace HB := hid (HB.out.keep u); replace UX := hid (UX.out.trans u)
          clear ho u
          go_wp2_with fail
          refine (hmarks_any HB.out.his).mono ?_
          rintro en x2 ⟨vn, rfl, ho, u⟩
          have R2 := hid (ints_rep ho fun x hx => by have := marks_small HB.out.plain hx; have := HB.out.few; unfold I64; omega)
          replace R1 := hid (kInts.keep R1.out (Same.of_upd u fun _ _ => id))
          have X12 := hid u.size
          replace HA := hid (HA.out.keep u); replace HB := hid (HB.out.keep u); replace UX := hid (UX.out.trans u)
          clear ho u
          go_wp2_with fail
          refine (within_any _ _ _ _ (marksF g1) (marksF (giveTo rdF R g1 g2 T.length)) _ R1.out R2.out (marks_asc HA.out.plain) (marks_asc HB.out.plain) GEND.out (by rw [marksF_len]; have := HA.out.plain.len; have := HA.out.few; omega) (by rw [marksF_len]; have := HB.out.plain.len; have := HB.out.few; omega) (fun g hg => Nat.lt_of_lt_of_le hg.2 X12.out) (fun g hg => hg.2)).mono ?_
          rintro en x3 ⟨rfl, u⟩
          have UZ := hid (UX.out.trans u)
          clear u
          go_wp2_with fail
          go_ret
          exact ⟨rfl, UZ.out⟩
      as_aux_lemma =>
      have tA : (0 : Int) < (k : Int) := by omega
      have dA : decide ((0 : Int) < (k : Int)) = true := decide_eq_true tA
      have tB : ¬ bud < U := by have := J3.out cA; omega
      have dB : decide (bud < U) = false := decide_eq_false tB
      have tC : ¬ (k : Int) < (N : Int) := by omega
      have dC : decide ((k : Int) < (N : Int)) = false := decide_eq_false tC
      clear J3 J4 REC TB TK1
      go_wp2_with (first | go_quiet (fail) | fail)
      go_loopg [23] (N - k) (fun gg si wx => ∃ i : Nat, i ≤ N ∧ gg = N - i ∧ si = .int .i64 i ∧ ∃ O2', HPre wx O2' Or b2 r (giveTo rdF R g1 g2 i) R ∧ HPre wx O1 Or b1 r g1 R ∧ (∀ k, O1 k → ¬ O2' k) ∧ (∀ k, O2' k → O2 k ∨ y5.heap.size ≤ k) ∧ TxsAt wx y4.heap.size (.slice a5 N c5) T ∧ Upd (fun _ => False) w wx ∧ y5.heap.size ≤ wx.heap.size)
      case atStart => first | exact ⟨k, hjN, rfl, rfl, START.out⟩ | (obtain ⟨P, p1, p2, p3, p4, p6, p7, p8⟩ := START.out; exact ⟨k, hjN, rfl, rfl, P, p1.keep ((Upd.refl _ _).drew), p2.keep ((Upd.refl _ _).drew), p3, p4, ownsRow_upd p6 ((Upd.refl (fun _ => False) _).drew) fun _ _ => id, p7.drew, p8⟩)
      case round =>
        obtain ⟨i, hi, hg, rfl, O3, q1, q2, q3, q4, q6, q7, q8⟩ := hrel
        have HG := hid hg; have HB := hid q1; have HA := hid q2; have HD := hid q3; have NW := hid q4; have RE := hid q6; have UX := hid q7; have SZ := hid q8
        clear hg q1 q2 q3 q4 q6 q7 q8 START
        by_cases hli : i < N
        case pos =>
          as_aux_lemma =>
          have hlii : (i : Int) < N := by omega
          have hi1 : (i : Int) + 1 ≤ 1000 := by omega
          have hil : i < T.length := by rw [HN.out]; exact hli
          obtain ⟨gf, ce, e2, _, _, _, _, hd⟩ := TxsAt.get RE.out (by omega)
          have e3 : a5 = some ⟨gf, 0, none⟩ := by injection e2
          subst e3
          have m1 := hd i hil
          have TK := hid (TOK.out _ (List.getElem_mem hil))
          have STEP := hid (GO.out i hil)
          obtain ⟨t, ht⟩ : ∃ t, T[i] = t := ⟨_, rfl⟩
          rw [ht] at m1 TK STEP
          have tl := TK.out.1
          clear hd ht e2
          go_wp2_with (first | go_quiet (fail) | fail)
          refine (tkR_any HB.out t (by omega) TK.out.2).mono ?_
          rintro en z1 ⟨rfl, O', q1, q2, q3⟩
          rw [STEP.out.1] at q1 ⊢
          dsimp only at q1 ⊢
          have A1 := hid (HA.out.upd q3 (fun k hk hk' => HD.out k hk hk') HB.out.apart fun k hk => (HB.out.his.lt k hk).1)
          have A2 := hid (HB.out.grown q3 q1 (GHIS.out (i + 1)) q2)
          have T2 := hid (ownsRow_upd RE.out q3 fun j hj e => by
            obtain ⟨z1, z2⟩ := G5.out j hj
            rcases NW.out j e with c | c
            · have := LO2.out j c; omega
            · omega)
          have D2 := hid (show ∀ k, O1 k → ¬ O' k from fun k hk hk' => (q2 k hk').elim (fun z => HD.out k hk z) fun z => by have := (HA.out.his.lt k hk).2; omega)
          have V2 := hid (show ∀ k, O' k → O2 k ∨ y5.heap.size ≤ k from fun k hk => (q2 k hk).elim (NW.out k) fun z => .inr (Nat.le_trans SZ.out z))
          have UY := hid (UX.out.comp q3 fun i hi e => by
            rcases NW.out i e with c | c
            · have := BW.out i c; omega
            · have := W5.out; omega)
          have SQ := hid (Nat.le_trans SZ.out q3.size)
          clear q1 q2 q3 m1
          go_wp2_with (first | go_quiet (fail) | fail)
          go_roundg (N - (i + 1))
          case measure => have := HG.out; omega
          case rel => exact ⟨i + 1, by omega, rfl, by go_num, O', A2.out, A1.out, D2.out, V2.out, T2.out, UY.out, SQ.out⟩
        as_aux_lemma =>
        obtain rfl : i = N := by omega
        have hlii : ¬ (i : Int) < i := by omega
        have HB := hid (show HPre wr O3 Or b2 r (giveTo rdF R g1 g2 T.length) R by rw [HN.out]; exact HB.out)
        clear HG NW RE SZ hi hli
        go_wp2_with fail
        refine (hmarks_any HA.out.his).mono ?_
        rintro en x1 ⟨vm, rfl, ho, u⟩
        have R1 := hid (ints_rep ho fun x hx => by have := marks_small HA.out.plain hx; have := HA.out.few; unfold I64; omega)
        replace HA := hid (HA.out.keep u); replace HB := hid (HB.out.keep u); replace UX := hid (UX.out.trans u)
        clear ho u
        go_wp2_with fail
        refine (hmarks_any HB.out.his).mono ?_
        rintro en x2 ⟨vn, rfl, ho, u⟩
        have R2 := hid (ints_rep ho fun x hx => by have := marks_small HB.out.plain hx; have := HB.out.few; unfold I64; omega)
        replace R1 := hid (kInts.keep R1.out (Same.of_upd u fun _ _ => id))
        have X12 := hid u.size
        replace HA := hid (HA.out.keep u); replace HB := hid (HB.out.keep u); replace UX := hid (UX.out.trans u)
        clear ho u
        go_wp2_with fail
        refine (within_any _ _ _ _ (marksF g1) (marksF (giveTo rdF R g1 g2 T.length)) _ R1.out R2.out (marks_asc HA.out.plain) (marks_asc HB.out.plain) GEND.out (by rw [marksF_len]; have := HA.out.plain.len; have := HA.out.few; omega) (by rw [marksF_len]; have := HB.out.plain.len; have := HB.out.few; omega) (fun g hg => Nat.lt_of_lt_of_le hg.2 X12.out) (fun g hg => hg.2)).mono ?_
        rintro en x3 ⟨rfl, u⟩
        have UZ := hid (UX.out.trans u)
        clear u
        go_wp2_with fail
        go_ret
        exact ⟨rfl, UZ.out⟩
    by_cases cB : k < N
    case pos =>
      as_aux_lemma =>
      have tA : ¬ (0 : Int) < (k : Int) := by omega
      have dA : decide ((0 : Int) < (k : Int)) = false := decide_eq_false tA
      have tC : (k : Int) < (N : Int) := by omega
      have dC : decide ((k : Int) < (N : Int)) = true := decide_eq_true tC
      have hkl : k < T.length := by rw [HN.out]; exact cB
      obtain ⟨ge, ce, e2, _, _, _, _, hd⟩ := TxsAt.get REC.out (by omega)
      have e3 : a5 = some ⟨ge, 0, none⟩ := by injection e2
      subst e3
      have m1 := hd k hkl
      have j4 := J4.out hkl
      have tl := (TOK.out _ (List.getElem_mem hkl)).1
      obtain ⟨t, ht⟩ : ∃ t, T[k] = t := ⟨_, rfl⟩
      rw [ht] at m1 j4 tl
      have hn1 : (1 : Int) ≤ N := by omega
      have hmin : min (k : Int) ((N : Int) - 1) = (k : Int) := by omega
      have hk0 : (0 : Int) ≤ (k : Int) := by omega
      have s0 : U + (t.length : Int) ≤ 9223372036854775807 := by omega
      have s1 : -9223372036854775808 ≤ U + (t.length : Int) := by omega
      have tD : ¬ U + (t.length : Int) ≤ bud := by omega
      have dD : decide (U + (t.length : Int) ≤ bud) = false := decide_eq_false tD
      clear hd ht e2 hkl
      clear J3 J4 REC TB TK1
      go_wp2_with (first | go_quiet (fail) | fail)
      go_loopg [23] (N - k) (fun gg si wx => ∃ i : Nat, i ≤ N ∧ gg = N - i ∧ si = .int .i64 i ∧ ∃ O2', HPre wx O2' Or b2 r (giveTo rdF R g1 g2 i) R ∧ HPre wx O1 Or b1 r g1 R ∧ (∀ k, O1 k → ¬ O2' k) ∧ (∀ k, O2' k → O2 k ∨ y5.heap.size ≤ k) ∧ TxsAt wx y4.heap.size (.slice (some ⟨ge, 0, none⟩) N c5) T ∧ Upd (fun _ => False) w wx ∧ y5.heap.size ≤ wx.heap.size)
      case atStart => first | exact ⟨k, hjN, rfl, rfl, START.out⟩ | (obtain ⟨P, p1, p2, p3, p4, p6, p7, p8⟩ := START.out; exact ⟨k, hjN, rfl, rfl, P, p1.keep ((Upd.refl _ _).drew), p2.keep ((Upd.refl _ _).drew), p3, p4, ownsRow_upd p6 ((Upd.refl (fun _ => False) _).drew) fun _ _ => id, p7.drew, p8⟩)
      case round =>
        obtain ⟨i, hi, hg, rfl, O3, q1, q2, q3, q4, q6, q7, q8⟩ := hrel
        have HG := hid hg; have HB := hid q1; have HA := hid q2; have HD := hid q3; have NW := hid q4; have RE := hid q6; have UX := hid q7; have SZ := hid q8
        clear hg q1 q2 q3 q4 q6 q7 q8 START
        by_cases hli : i < N
        case pos =>
          as_aux_lemma =>
          have hlii : (i : Int) < N := by omega
          have hi1 : (i : Int) + 1 ≤ 1000 := by omega
          have hil : i < T.length := by rw [HN.out]; exact hli
          obtain ⟨gf, ce, e2, _, _, _, _, hd⟩ := TxsAt.get RE.out (by omega)
          have e3 : some (⟨ge, 0, none⟩ : Addr) = some ⟨gf, 0, none⟩ := by injection e2
          have e4 : ge = gf := by
            injection e3 with e3
            injection e3
          subst e4
          clear e3
          have m1 := hd i hil
          have TK := hid (TOK.out _ (List.getElem_mem hil))
          have STEP := hid (GO.out i hil)
          obtain ⟨t, ht⟩ : ∃ t, T[i] = t := ⟨_, rfl⟩
          rw [ht] at m1 TK STEP
          have tl := TK.out.1
          clear hd ht e2
          go_wp2_with (first | go_quiet (fail) | fail)
          refine (tkR_any HB.out t (by omega) TK.out.2).mono ?_
          rintro en z1 ⟨rfl, O', q1, q2, q3⟩
          rw [STEP.out.1] at q1 ⊢
          dsimp only at q1 ⊢
          have A1 := hid (HA.out.upd q3 (fun k hk hk' => HD.out k hk hk') HB.out.apart fun k hk => (HB.out.his.lt k hk).1)
          have A2 := hid (HB.out.grown q3 q1 (GHIS.out (i + 1)) q2)
          have T2 := hid (ownsRow_upd RE.out q3 fun j hj e => by
            obtain ⟨z1, z2⟩ := G5.out j hj
            rcases NW.out j e with c | c
            · have := LO2.out j c; omega
            · omega)
          have D2 := hid (show ∀ k, O1 k → ¬ O' k from fun k hk hk' => (q2 k hk').elim (fun z => HD.out k hk z) fun z => by have := (HA.out.his.lt k hk).2; omega)
          have V2 := hid (show ∀ k, O' k → O2 k ∨ y5.heap.size ≤ k from fun k hk => (q2 k hk).elim (NW.out k) fun z => .inr (Nat.le_trans SZ.out z))
          have UY := hid (UX.out.comp q3 fun i hi e => by
            rcases NW.out i e with c | c
            · have := BW.out i c; omega
            · have := W5.out; omega)
          have SQ := hid (Nat.le_trans SZ.out q3.size)
          clear q1 q2 q3 m1
          go_wp2_with (first | go_quiet (fail) | fail)
          go_roundg (N - (i + 1))
          case measure => have := HG.out; omega
          case rel => exact ⟨i + 1, by omega, rfl, by go_num, O', A2.out, A1.out, D2.out, V2.out, T2.out, UY.out, SQ.out⟩
        as_aux_lemma =>
        obtain rfl : i = N := by omega
        have hlii : ¬ (i : Int) < i := by omega
        have HB := hid (show HPre wr O3 Or b2 r (giveTo rdF R g1 g2 T.length) R by rw [HN.out]; exact HB.out)
        clear HG NW RE SZ hi hli
        go_wp2_with fail
        refine (hmarks_any HA.out.his).mono ?_
        rintro en x1 ⟨vm, rfl, ho, u⟩
        have R1 := hid (ints_rep ho fun x hx => by have := marks_small HA.out.plain hx; have := HA.out.few; unfold I64; omega)
        replace HA := hid (HA.out.keep u); replace HB := hid (HB.out.keep u); replace UX := hid (UX.out.trans u)
        clear ho u
        go_wp2_with fail
        refine (hmarks_any HB.out.his).mono ?_
        rintro en x2 ⟨vn, rfl, ho, u⟩
        have R2 := hid (ints_rep ho fun x hx => by have := marks_small HB.out.plain hx; have := HB.out.few; unfold I64; omega)
        replace R1 := hid (kInts.keep R1.out (Same.of_upd u fun _ _ => id))
        have X12 := hid u.size
        replace HA := hid (HA.out.keep u); replace HB := hid (HB.out.keep u); replace UX := hid (UX.out.trans u)
        clear ho u
        go_wp2_with fail
        refine (within_any _ _ _ _ (marksF g1) (marksF (giveTo rdF R g1 g2 T.length)) _ R1.out R2.out (marks_asc HA.out.plain) (marks_asc HB.out.plain) GEND.out (by rw [marksF_len]; have := HA.out.plain.len; have := HA.out.few; omega) (by rw [marksF_len]; have := HB.out.plain.len; have := HB.out.few; omega) (fun g hg => Nat.lt_of_lt_of_le hg.2 X12.out) (fun g hg => hg.2)).mono ?_
        rintro en x3 ⟨rfl, u⟩
        have UZ := hid (UX.out.trans u)
        clear u
        go_wp2_with fail
        go_ret
        exact ⟨rfl, UZ.out⟩
    as_aux_lemma =>
    have tA : ¬ (0 : Int) < (k : Int) := by omega
    have dA : decide ((0 : Int) < (k : Int)) = false := decide_eq_false tA
    have tC : ¬ (k : Int) < (N : Int) := by omega
    have dC : decide ((k : Int) < (N : Int)) = false := decide_eq_false tC
    clear J3 J4 REC TB TK1
    go_wp2_with (first | go_quiet (fail) | fail)
    go_loopg [23] (N - k) (fun gg si wx => ∃ i : Nat, i ≤ N ∧ gg = N - i ∧ si = .int .i64 i ∧ ∃ O2', HPre wx O2' Or b2 r (giveTo rdF R g1 g2 i) R ∧ HPre wx O1 Or b1 r g1 R ∧ (∀ k, O1 k → ¬ O2' k) ∧ (∀ k, O2' k → O2 k ∨ y5.heap.size ≤ k) ∧ TxsAt wx y4.heap.size (.slice a5 N c5) T ∧ Upd (fun _ => False) w wx ∧ y5.heap.size ≤ wx.heap.size)
    case atStart => first | exact ⟨k, hjN, rfl, rfl, START.out⟩ | (obtain ⟨P, p1, p2, p3, p4, p6, p7, p8⟩ := START.out; exact ⟨k, hjN, rfl, rfl, P, p1.keep ((Upd.refl _ _).drew), p2.keep ((Upd.refl _ _).drew), p3, p4, ownsRow_upd p6 ((Upd.refl (fun _ => False) _).drew) fun _ _ => id, p7.drew, p8⟩)
    case round =>
      obtain ⟨i, hi, hg, rfl, O3, q1, q2, q3, q4, q6, q7, q8⟩ := hrel
      have HG := hid hg; have HB := hid q1; have HA := hid q2; have HD := hid q3; have NW := hid q4; have RE := hid q6; have UX := hid q7; have SZ := hid q8
      clear hg q1 q2 q3 q4 q6 q7 q8 START
      by_cases hli : i < N
      case pos =>
        as_aux_lemma =>
        have hlii : (i : Int) < N := by omega
        have hi1 : (i : Int) + 1 ≤ 1000 := by omega
        have hil : i < T.length := by rw [HN.out]; exact hli
        obtain ⟨gf, ce, e2, _, _, _, _, hd⟩ := TxsAt.get RE.out (by omega)
        have e3 : a5 = some ⟨gf, 0, none⟩ := by injection e2
        subst e3
        have m1 := hd i hil
        have TK := hid (TOK.out _ (List.getElem_mem hil))
        have STEP := hid (GO.out i hil)
        obtain ⟨t, ht⟩ : ∃ t, T[i] = t := ⟨_, rfl⟩
        rw [ht] at m1 TK STEP
        have tl := TK.out.1
        clear hd ht e2
        go_wp2_with (first | go_quiet (fail) | fail)
        refine (tkR_any HB.out t (by omega) TK.out.2).mono ?_
        rintro en z1 ⟨rfl, O', q1, q2, q3⟩
        rw [STEP.out.1] at q1 ⊢
        dsimp only at q1 ⊢
        have A1 := hid (HA.out.upd q3 (fun k hk hk' => HD.out k hk hk') HB.out.apart fun k hk => (HB.out.his.lt k hk).1)
        have A2 := hid (HB.out.grown q3 q1 (GHIS.out (i + 1)) q2)
        have T2 := hid (ownsRow_upd RE.out q3 fun j hj e => by
          obtain ⟨z1, z2⟩ := G5.out j hj
          rcases NW.out j e with c | c
          · have := LO2.out j c; omega
          · omega)
        have D2 := hid (show ∀ k, O1 k → ¬ O' k from fun k hk hk' => (q2 k hk').elim (fun z => HD.out k hk z) fun z => by have := (HA.out.his.lt k hk).2; omega)
        have V2 := hid (show ∀ k, O' k → O2 k ∨ y5.heap.size ≤ k from fun k hk => (q2 k hk).elim (NW.out k) fun z => .inr (Nat.le_trans SZ.out z))
        have UY := hid (UX.out.comp q3 fun i hi e => by
          rcases NW.out i e with c | c
          · have := BW.out i c; omega
          · have := W5.out; omega)
        have SQ := hid (Nat.le_trans SZ.out q3.size)
        clear q1 q2 q3 m1
        go_wp2_with (first | go_quiet (fail) | fail)
        go_roundg (N - (i + 1))
        case measure => have := HG.out; omega
        case rel => exact ⟨i + 1, by omega, rfl, by go_num, O', A2.out, A1.out, D2.out, V2.out, T2.out, UY.out, SQ.out⟩
      as_aux_lemma =>
      obtain rfl : i = N := by omega
      have hlii : ¬ (i : Int) < i := by omega
      have HB := hid (show HPre wr O3 Or b2 r (giveTo rdF R g1 g2 T.length) R by rw [HN.out]; exact HB.out)
      clear HG NW RE SZ hi hli
      go_wp2_with fail
      refine (hmarks_any HA.out.his).mono ?_
      rintro en x1 ⟨vm, rfl, ho, u⟩
      have R1 := hid (ints_rep ho fun x hx => by have := marks_small HA.out.plain hx; have := HA.out.few; unfold I64; omega)
      replace HA := hid (HA.out.keep u); replace HB := hid (HB.out.keep u); replace UX := hid (UX.out.trans u)
      clear ho u
      go_wp2_with fail
      refine (hmarks_any HB.out.his).mono ?_
      rintro en x2 ⟨vn, rfl, ho, u⟩
      have R2 := hid (ints_rep ho fun x hx => by have := marks_small HB.out.plain hx; have := HB.out.few; unfold I64; omega)
      replace R1 := hid (kInts.keep R1.out (Same.of_upd u fun _ _ => id))
      have X12 := hid u.size
      replace HA := hid (HA.out.keep u); replace HB := hid (HB.out.keep u); replace UX := hid (UX.out.trans u)
      clear ho u
      go_wp2_with fail
      refine (within_any _ _ _ _ (marksF g1) (marksF (giveTo rdF R g1 g2 T.length)) _ R1.out R2.out (marks_asc HA.out.plain) (marks_asc HB.out.plain) GEND.out (by rw [marksF_len]; have := HA.out.plain.len; have := HA.out.few; omega) (by rw [marksF_len]; have := HB.out.plain.len; have := HB.out.few; omega) (fun g hg => Nat.lt_of_lt_of_le hg.2 X12.out) (fun g hg => hg.2)).mono ?_
      rintro en x3 ⟨rfl, u⟩
      have UZ := hid (UX.out.trans u)
      clear u
      go_wp2_with fail
      go_ret
      exact ⟨rfl, UZ.out⟩
theorem gives_card (v : Value) (l : List Po) (one two bud : Int) (w : World) (E : Env w) (hu : UsesIn w) (hz : 6 ≤ w.heap.size) (h : kPos.rep (· < w.heap.size) w [v] l) (_ : (Lit.int .i64 one).wf = true) (_ : (Lit.int .i64 two).wf = true) (hb : (Lit.int .i64 bud).wf = true) : Calls Tryz.prog 5 #[v, .int .i64 one, .int .i64 two, .int .i64 bud] w fun e w' => e = .returned (.bool true) ∧ Below w.heap.size w w' :=
  (gives_walk v l one two bud w (by have q := hb; simp [Lit.wf, IntKind.min, IntKind.max, IntKind.signed, IntKind.bits] at q; unfold I64; omega) E hu hz h).mono fun _ _ ⟨a, u⟩ => ⟨a, u.below (Nat.le_refl _) fun _ q => q.elim⟩
end Go.Proofs.YtjkmalddfoemhaaGreatDoor
