/- Walks: ReconTakes. -/
import Derived.Test.YtjkmalddfoemhaaGreatDoorCRcSmall
import Derived.Test.YtjkmalddfoemhaaGreatDoorJ23
import Derived.Test.YtjkmalddfoemhaaGreatDoorJ22
import Derived.Test.YtjkmalddfoemhaaGreatDoorJ14
import Derived.Laws.StructEq
namespace Go.Proofs.YtjkmalddfoemhaaGreatDoor
open Go.RowKit Go.Deep

theorem eql_sg (a : Sg) (w : World) : (binOp .eql 49 (.agg #[.int .i64 a.key, .string ⟨a.text.toArray⟩, .int .i64 a.mark]) (.agg #[.int .i64 a.key, .string ⟨a.text.toArray⟩, .int .i64 a.mark])).run Tryz.prog w = .ok (.bool true) w := by
  rw [run_eql_struct, run_equalIn_agg w 9999 49 _ _ (by kernel_rfl) (by kernel_rfl)]
  simp only [Program.fieldsOf, Tryz.underlying49]
  go_simp
theorem tk_len {t : List UInt8} (h : t.length ≤ 1500) : (tkR t).1.text.length ≤ 1000000 ∧ I64 (tkR t).1.key ∧ I64 (tkR t).1.mark ∧ (numF ⟨t, false⟩).2.rest.length ≤ 10000000 ∧ (numF (numF ⟨t, false⟩).2).2.rest.length ≤ 10000000 := by
  have h1 : _ ≤ t.length - 1 := numF_len ⟨t, false⟩
  have h2 := numF_len (numF ⟨t, false⟩).2
  have h3 := textF_vlen (numF (numF ⟨t, false⟩).2).2
  refine ⟨?_, numberF_i64 59 0 _, numberF_i64 59 0 _, by omega, by omega⟩
  show (textF (numF (numF ⟨t, false⟩).2).2).1.length ≤ _
  omega
set_option maxRecDepth 100000 in
set_option maxHeartbeats 16000000 in
theorem takes_walk (v : Value) (l : List Po) (one : Int) (s : List UInt8) (w : World) (E : Env w) (hu : UsesIn w) (hz : 6 ≤ w.heap.size) (h : kPos.rep (· < w.heap.size) w [v] l) : Calls Tryz.prog 4 #[v, .int .i64 one, .string ⟨s.toArray⟩] w fun e w' => e = .returned (.bool true) ∧ Upd (fun _ => False) w w' := by
  have HE := hid E; have HU := hid hu; have HZ := hid hz
  have HP0 := hid h
  obtain ⟨av, cv, rfl, _, hcv, _⟩ := slice_open h
  clear E hu hz h
  go_enter Tryz.func4, Tryz.ntmps4
  go_wp2_with fail
  refine (rcsmall_any w HE.out HU.out HZ.out).mono ?_
  rintro en x0 ⟨rfl, u⟩
  have U0 := hid u
  have HP := hid (kPos.mono (kPos.keep HP0.out (Same.of_upd u fun _ _ => id)) fun g hg => (Nat.lt_of_lt_of_le hg u.size : g < x0.heap.size))
  clear u HP0
  go_wp2_with fail
  refine (fewL_any _ _ l 14 _ HP.out (by decide)).mono ?_
  rintro en x1 ⟨rfl, u⟩
  by_cases hf : FewL l 14
  case neg =>
    rw [decide_eq_false hf]
    have U1 := hid (U0.out.trans u)
    clear u
    go_wp2_with fail
    go_ret
    exact ⟨rfl, U1.out⟩
  rw [decide_eq_true hf]
  replace U0 := hid (U0.out.trans u)
  replace HP := hid (kPos.mono (kPos.keep HP.out (Same.of_upd u fun _ _ => id)) fun g hg => (Nat.lt_of_lt_of_le hg u.size : g < x1.heap.size))
  have HF := hid hf
  clear u hf
  by_cases hs15 : s.length ≤ 1500
  case neg =>
    have t15 : (1500 : Int) < (s.length : Int) := by omega
    have d15 : decide ((1500 : Int) < (s.length : Int)) = true := decide_eq_true t15
    go_wp2_with fail
    go_ret
    exact ⟨rfl, U0.out⟩
  have t15 : ¬ (1500 : Int) < (s.length : Int) := by omega
  have d15 : decide ((1500 : Int) < (s.length : Int)) = false := decide_eq_false t15
  have H15 := hid hs15
  clear hs15
  go_wp2_with fail
  refine (play_any _ l _ (HE.out.keep0 U0.out) (HU.out.keep U0.out) HP.out (by have := HF.out.1; omega) ⟨Nat.le_refl _, HF.out.2⟩ (Nat.le_trans HZ.out U0.out.size)).mono ?_
  rintro en x2 ⟨r, vs, b, O, Or, rfl, PA⟩
  obtain ⟨hs, hhs⟩ : ∃ hs, playF l = hs := ⟨_, rfl⟩
  obtain ⟨R, hR⟩ : ∃ R, (signedF l).1 = R := ⟨_, rfl⟩
  have HH := hid (show HPre x2 O Or b r hs R by rw [← hhs, ← hR]; exact PA.pre)
  have HO := hid (show ∀ k, O k → w.heap.size ≤ k from fun k hk => Nat.le_trans U0.out.size (PA.own k hk))
  have UX := hid (U0.out.trans PA.upd)
  have RL := hid (show R.length ≤ 4000 from Nat.le_trans HH.out.few (by decide))
  have MI := hid (fun x (hx : x ∈ marksF hs) => (show I64 x from by have := marks_small HH.out.plain hx; have := HH.out.few; unfold I64; omega))
  have ML := hid (show (marksF hs).length ≤ 1000 by rw [marksF_len]; have := HH.out.plain.len; have := HH.out.few; omega)
  clear PA hhs hR HF HP U0 t15 d15
  go_wp2_with fail
  refine (hmarks_any HH.out.his).mono ?_
  rintro en za1 ⟨vm, rfl, ho, u⟩
  have MR := hid (ints_rep ho MI.out)
  replace HH := hid (HH.out.keep u); replace UX := hid (UX.out.trans u)
  clear ho u
  go_wp2_with fail
  refine (some12_any _ _ _ one _ MR.out (fun g hg => hg.2) ML.out).mono ?_
  rintro en za2 ⟨l1, hsub, v1, rfl, ho, u⟩
  have R1 := hid (ints_rep ho fun x hx => MI.out x (hsub x hx))
  replace HH := hid (HH.out.keep u); replace UX := hid (UX.out.trans u)
  clear ho u hsub MR
  go_wp2_with fail
  refine (hrestrict_any HH.out _ _ l1 R1.out).mono ?_
  rintro en za3 ⟨b1, O1, rfl, q1, q2, u⟩
  have H1 := hid (HH.out.made u q1 (restrict_ok HH.out.plain RL.out l1).1 q2)
  have W1 := hid (show ∀ k, O1 k → w.heap.size ≤ k from fun k hk => Nat.le_trans UX.out.size (q2 k hk))
  replace HH := hid (HH.out.keep u); replace UX := hid (UX.out.trans u)
  obtain ⟨g1, hg1⟩ : ∃ g, restrictF rdF R hs l1 = g := ⟨_, rfl⟩
  rw [hg1] at H1
  clear q1 q2 u R1 hg1
  clear HO ML MI
  have TL := hid (tk_len H15.out)
  have ZR := hid (show 6 ≤ w.heap.size from HZ.out)
  have MLB := hid (fun (g : Hs) (G : His rdF R g) => (show (marksF g).length ≤ 60 from by rw [marksF_len]; have := G.len; have := H1.out.few; omega))
  have MIB := hid (fun (g : Hs) (G : His rdF R g) x (hx : x ∈ marksF g) => (show I64 x from by have := marks_small G hx; have := H1.out.few; unfold I64; omega))
  have HISB := hid (takeF_his H1.out.plain s)
  have HISA := hid H1.out.plain
  have NOT := hid (fun q => take_no (rd := rdF) (R := R) (h := g1) (t := s) q)
  have YES := hid (fun q => take_yes H1.out.plain (t := s) q)
  have LT1 := hid (fun k hk => (H1.out.his.lt k hk).2)
  go_wp2_with fail
  refine (hmarks_any H1.out.his).mono ?_
  rintro en y1 ⟨vb, rfl, ho, u⟩
  have RB := hid ho
  replace H1 := hid (H1.out.keep u); replace UX := hid (UX.out.trans u)
  have VB := hid (show ∀ g, vb.ownBlock = some g → ¬ O1 g from fun g hg hk => by
    have h1 := (own_lt ho g hg).1
    have h2 := LT1.out g hk
    omega)
  have RBO := hid ho
  clear ho u
  go_wp2_with fail
  refine (tkR_any H1.out s (by have := H15.out; omega) TL.out.1).mono ?_
  rintro en y2 ⟨rfl, O2, q1, q2, q3⟩
  replace RB := hid (ownsRow_upd RB.out q3 fun g hg => VB.out g hg)
  have H2 := hid (H1.out.grown q3 q1 HISB.out q2)
  have W2 := hid (show ∀ k, O2 k → w.heap.size ≤ k from fun k hk => (q2 k hk).elim (W1.out k) fun z => Nat.le_trans UX.out.size z)
  have VB2 := hid (show ∀ g, vb.ownBlock = some g → ¬ O2 g from fun g hg hk => (q2 g hk).elim (VB.out g hg) fun z => by have := (own_lt RB.out g hg).2; have := (own_lt RBO.out g hg).2; omega)
  replace UX := hid (UX.out.comp q3 fun i hi e => by have := W1.out i e; omega)
  obtain ⟨er, her⟩ : ∃ e, (takeF rdF R g1 s).2 = e := ⟨_, rfl⟩
  obtain ⟨g2, hg2⟩ : ∃ g, (takeF rdF R g1 s).1 = g := ⟨_, rfl⟩
  rw [her] at NOT YES
  rw [hg2] at HISB H2 NOT YES
  rw [her]
  have HER := hid her; have HG2 := hid hg2
  clear q1 q2 q3 her hg2 H1
  have LT2 := hid (fun k hk => (H2.out.his.lt k hk).2)
  go_wp2_with fail
  refine (hmarks_any H2.out.his).mono ?_
  rintro en y3 ⟨va, rfl, ho, u⟩
  have RA := hid ho
  replace RB := hid (ownsRow_upd RB.out u fun _ _ => id)
  replace H2 := hid (H2.out.keep u); replace UX := hid (UX.out.trans u)
  obtain ⟨ab, cb, rfl, hb1, hb2⟩ := own_slice RB.out
  have hb2 : cb ≤ 9223372036854775807 := hb2
  obtain ⟨aa, ca, rfl, ha1, ha2⟩ := own_slice RA.out
  have ha2 : ca ≤ 9223372036854775807 := ha2
  have RBY := hid RB.out; have RAY := hid RA.out; have H2Y := hid H2.out
  have VA2 := hid (show ∀ g, Value.ownBlock (.slice aa (marksF g2).length ca) = some g → ¬ O2 g from fun g hg hk => by have h1 := (own_lt ho g hg).1; have h2 := LT2.out g hk; omega)
  have TL1 := hid TL.out.1
  clear ho u
  by_cases he : er = 0
  case neg =>
    as_aux_lemma =>
    have NO := hid (NOT.out he)
    have t0 : (er == 0) = false := beq_eq_false_iff_ne.2 he
    have R1 := hid (kInts.mono (ints_rep RB.out (MIB.out _ HISA.out)) fun g hg => hg.2)
    have R2 := hid (kInts.mono (ints_rep RA.out (MIB.out _ HISB.out)) fun g hg => hg.2)
    clear he NOT YES
    go_wp2_with fail
    refine (ints8_any _ _ (marksF g1) (marksF g2) (· < y3.heap.size) (· < y3.heap.size) _ R1.out R2.out (fun _ h => h) (fun _ h => h)).mono ?_
    rintro en y4 ⟨rfl, u⟩
    rw [NO.out, decide_eq_true rfl]
    have UZ := hid (UX.out.trans u)
    clear u
    go_wp2_with fail
    go_ret
    exact ⟨rfl, UZ.out⟩
  as_aux_lemma =>
  subst he
  have t0 : ((0 : Int) == 0) = true := rfl
  obtain ⟨k1, k2, k3, k4, k5, k6, k7⟩ := YES.out rfl
  have K1 := hid k1; have K2 := hid k2; have K3 := hid k3; have K4 := hid k4; have K5 := hid k5; have K6 := hid k6; have K7 := hid k7
  have TS := hid (show tkR s = (⟨(numF ⟨s, false⟩).1, (textF (numF (numF ⟨s, false⟩).2).2).1, (numF (numF ⟨s, false⟩).2).1⟩, (textF (numF (numF ⟨s, false⟩).2).2).2) from rfl)
  have L2 := hid TL.out.2.2.2.1
  have L3 := hid TL.out.2.2.2.2
  obtain ⟨r0, hr0⟩ : ∃ x : RS, ⟨s, false⟩ = x := ⟨_, rfl⟩
  rw [hr0] at TS L2 L3
  obtain ⟨x1, hx1⟩ : ∃ x, numF r0 = x := ⟨_, rfl⟩
  rw [hx1] at TS L2 L3
  obtain ⟨x2, hx2⟩ : ∃ x, numF x1.2 = x := ⟨_, rfl⟩
  rw [hx2] at TS L3
  obtain ⟨x3, hx3⟩ : ∃ x, textF x2.2 = x := ⟨_, rfl⟩
  rw [hx3] at TS
  obtain ⟨key, r1⟩ := x1
  obtain ⟨mark, r2⟩ := x2
  obtain ⟨text, r3⟩ := x3
  have HX1 := hid hx1; have HX2 := hid hx2; have HX3 := hid hx3; have HR0 := hid hr0
  have TLk := hid (show I64 key ∧ I64 mark ∧ text.length ≤ 1000000 from by
    have a := TL.out.2.1; have b := TL.out.2.2.1; have c := TL.out.1
    rw [TS.out] at a b c
    exact ⟨a, b, c⟩)
  replace K1 := hid (show r3.bad = false ∧ r3.rest = [] from by have q := K1.out; unfold TkOk at q; rw [TS.out] at q; exact q)
  replace K2 := hid (show ValidP R ⟨key, text, mark⟩ from by have q := K2.out; rw [TS.out] at q; exact q)
  replace K3 := hid (show (idxF g2 mark).isSome from by have q := K3.out; rw [TS.out] at q; exact q)
  replace K4 := hid (show sgM g2 mark = ⟨key, text, mark⟩ from by have q := K4.out; rw [TS.out] at q; exact q)
  have KS2 := hid (show (signedM g2 mark).2 = true from by
    obtain ⟨i, e⟩ := Option.isSome_iff_exists.1 K3.out
    obtain ⟨hi, _⟩ := idx_some e
    unfold signedM
    rw [e]
    dsimp only
    rw [List.getElem?_eq_getElem hi])
  have MW := hid (show (Lit.int .i64 mark).wf = true from iwf TLk.out.2.1)
  have KW := hid (show (Lit.int .i64 key).wf = true from iwf TLk.out.1)
  clear hr0 hx1 hx2 hx3 k1 k2 k3 k4 k5 k6 k7 YES NOT TL
  go_wp2_with fail
  refine (open_any s _).mono ?_
  rintro en y4 ⟨rfl, hr, u⟩
  rw [HR0.out] at hr
  have Q1 := hid hr
  replace RB := hid (ownsRow_upd RB.out u fun _ _ => id); replace RA := hid (ownsRow_upd RA.out u fun _ _ => id)
  replace H2 := hid (H2.out.keep u)
  have UF := hid u
  clear hr u
  obtain ⟨pb, hpb⟩ : ∃ x, y3.heap.size = x := ⟨_, rfl⟩
  have HPB := hid hpb
  have PB6 := hid (show 6 ≤ pb by rw [← hpb]; exact Nat.le_trans ZR.out UX.out.size)
  replace Q1 := hid (hpb ▸ Q1.out)
  rw [hpb]
  clear hpb
  go_wp2_with fail
  refine (numR_any pb r0 _ (H2.out.gnd.env) Q1.out PB6.out (by rw [← HR0.out]; exact Nat.le_trans H15.out (by decide))).mono ?_
  rintro en y5 ⟨rfl, hr, u⟩
  rw [HX1.out] at hr ⊢
  have Q2 := hid hr
  have VV := hid (show Upd (fun _ => False) y3 y5 from UF.out.comp u fun i hi q => by have := HPB.out; omega)
  replace RB := hid (ownsRow_upd RB.out u fun g hg e => by have := (own_lt RBY.out g hg).2; have := HPB.out; omega); replace RA := hid (ownsRow_upd RA.out u fun g hg e => by have := (own_lt RAY.out g hg).2; have := HPB.out; omega)
  replace H2 := hid (H2.out.upd u (fun k hk e => by have := (H2Y.out.his.lt k hk).2; have := HPB.out; omega) (fun k hk e => by have := (H2Y.out.gnd.ring.lt k hk).2; have := HPB.out; omega) (fun k e => by rw [e]; exact PB6.out))
  replace UF := VV
  clear hr u Q1 VV
  go_wp2_with fail
  refine (numR_any pb r1 _ (H2.out.gnd.env) Q2.out PB6.out L2.out).mono ?_
  rintro en y6 ⟨rfl, hr, u⟩
  rw [HX2.out] at hr ⊢
  have Q3 := hid hr
  have VV := hid (show Upd (fun _ => False) y3 y6 from UF.out.comp u fun i hi q => by have := HPB.out; omega)
  replace RB := hid (ownsRow_upd RB.out u fun g hg e => by have := (own_lt RBY.out g hg).2; have := HPB.out; omega); replace RA := hid (ownsRow_upd RA.out u fun g hg e => by have := (own_lt RAY.out g hg).2; have := HPB.out; omega)
  replace H2 := hid (H2.out.upd u (fun k hk e => by have := (H2Y.out.his.lt k hk).2; have := HPB.out; omega) (fun k hk e => by have := (H2Y.out.gnd.ring.lt k hk).2; have := HPB.out; omega) (fun k e => by rw [e]; exact PB6.out))
  replace UF := VV
  clear hr u Q2 VV
  go_wp2_with fail
  refine (textR_any pb r2 _ (H2.out.gnd.env) Q3.out PB6.out L3.out).mono ?_
  rintro en y7 ⟨rfl, hr, u⟩
  rw [HX3.out] at hr ⊢
  have Q4 := hid hr
  have VV := hid (show Upd (fun _ => False) y3 y7 from UF.out.comp u fun i hi q => by have := HPB.out; omega)
  replace RB := hid (ownsRow_upd RB.out u fun g hg e => by have := (own_lt RBY.out g hg).2; have := HPB.out; omega); replace RA := hid (ownsRow_upd RA.out u fun g hg e => by have := (own_lt RAY.out g hg).2; have := HPB.out; omega)
  replace H2 := hid (H2.out.upd u (fun k hk e => by have := (H2Y.out.his.lt k hk).2; have := HPB.out; omega) (fun k hk e => by have := (H2Y.out.gnd.ring.lt k hk).2; have := HPB.out; omega) (fun k e => by rw [e]; exact PB6.out))
  replace UF := VV
  clear hr u Q3 VV
  obtain ⟨y8, hz9⟩ : ∃ z, z = y7.alloc (.cells #[.int .i64 key, .string ⟨text.toArray⟩, .int .i64 mark] 49 (0, 0)) := ⟨_, rfl⟩
  have u : Upd (fun _ => False) y7 y8 := by rw [hz9]; exact (Upd.refl _ _).alloc _
  have BS := hid (show y8.heap[y7.heap.size]? = some (.cells #[.int .i64 key, .string ⟨text.toArray⟩, .int .i64 mark] 49 (0, 0)) by rw [hz9]; exact heap_alloc_new)
  have HZ9 := hid hz9
  obtain ⟨ps, hps⟩ : ∃ x, y7.heap.size = x := ⟨_, rfl⟩
  rw [hps] at BS
  have HPS := hid hps
  have NBS := hid (show ¬ O2 ps from fun e => by have := (H2.out.his.lt _ e).2; omega)
  have PBS := hid (show pb < ps from by rw [← hps]; exact heap_lt Q4.out)
  replace Q4 := hid (Q4.out.upd u id)
  replace RB := hid (ownsRow_upd RB.out u fun _ _ => id); replace RA := hid (ownsRow_upd RA.out u fun _ _ => id); replace H2 := hid (H2.out.keep u); replace UF := hid (UF.out.trans u)
  clear hz9 hps
  go_upto_region 19 with (fail)
  try rw [← HZ9.out]
  try rw [HPS.out]
  clear HZ9 HPS u
  go_wp2_with fail
  refine (hsigned_any H2.out.his mark MW.out).mono ?_
  rintro en y9 ⟨rfl, u⟩
  rw [signed_sg, KS2.out, K4.out]
  unfold sgV
  replace Q4 := hid (Q4.out.upd u id)
  replace BS := hid ((u.block _ (heap_lt BS.out) id).trans BS.out)
  replace RB := hid (ownsRow_upd RB.out u fun _ _ => id); replace RA := hid (ownsRow_upd RA.out u fun _ _ => id); replace H2 := hid (H2.out.keep u); replace UF := hid (UF.out.trans u)
  clear u
  obtain ⟨y10, hz9⟩ : ∃ z, z = y9.alloc (.cells #[.int .i64 key, .string ⟨text.toArray⟩, .int .i64 mark] 49 (0, 0)) := ⟨_, rfl⟩
  have u : Upd (fun _ => False) y9 y10 := by rw [hz9]; exact (Upd.refl _ _).alloc _
  have BX := hid (show y10.heap[y9.heap.size]? = some (.cells #[.int .i64 key, .string ⟨text.toArray⟩, .int .i64 mark] 49 (0, 0)) by rw [hz9]; exact heap_alloc_new)
  have HZ9 := hid hz9
  obtain ⟨px, hps⟩ : ∃ x, y9.heap.size = x := ⟨_, rfl⟩
  rw [hps] at BX
  have HPS := hid hps
  have NBX := hid (show ¬ O2 px from fun e => by have := (H2.out.his.lt _ e).2; omega)
  have PBX := hid (show pb < px from by rw [← hps]; exact heap_lt Q4.out)
  replace Q4 := hid (Q4.out.upd u id)
  replace RB := hid (ownsRow_upd RB.out u fun _ _ => id); replace RA := hid (ownsRow_upd RA.out u fun _ _ => id); replace H2 := hid (H2.out.keep u); replace UF := hid (UF.out.trans u)
  replace BS := hid ((u.block _ (heap_lt BS.out) id).trans BS.out)
  clear hz9 hps
  go_upto_region 20 with (fail)
  try rw [← HZ9.out]
  try rw [HPS.out]
  clear HZ9 HPS u
  replace UX := hid (UX.out.trans UF.out)
  go_wp2_with fail
  refine (tkR_any H2.out s (by have := H15.out; omega) TL1.out).mono ?_
  rintro en y11 ⟨rfl, O3, q1, q2, q3⟩
  rw [K6.out] at q1 ⊢
  dsimp only at q1 ⊢
  have H3 := hid (H2.out.grown q3 q1 HISB.out q2)
  replace Q4 := hid (Q4.out.upd q3 (fun e => by have := (H2Y.out.his.lt _ e).2; have := HPB.out; omega))
  replace BS := hid ((q3.block _ (heap_lt BS.out) NBS.out).trans BS.out)
  replace BX := hid ((q3.block _ (heap_lt BX.out) NBX.out).trans BX.out)
  replace RB := hid (ownsRow_upd RB.out q3 fun g hg e => VB2.out g hg e); replace RA := hid (ownsRow_upd RA.out q3 fun g hg e => VA2.out g hg e)
  replace UX := hid (UX.out.comp q3 fun i hi e => by have := W2.out i e; omega)
  clear q1 q2 q3 H2 NBS NBX VB2 VA2
  go_wp2_with fail
  refine (done_any pb r3 _ Q4.out).mono ?_
  rintro en yy ⟨rfl, rfl⟩
  rw [done_yes K1.out]
  obtain ⟨m0, m1, m2⟩ := sg_cells BS.out
  go_wp2_with fail
  refine (valid_ring H3.out.gnd.ring ⟨key, text, mark⟩ KW.out TLk.out.2.2).mono ?_
  rintro en y12 ⟨rfl, u⟩
  rw [decide_eq_true K2.out]
  replace RB := hid (ownsRow_upd RB.out u fun _ _ => id); replace RA := hid (ownsRow_upd RA.out u fun _ _ => id); replace H3 := hid (H3.out.keep u); replace UX := hid (UX.out.trans u); replace BS := hid ((u.block _ (heap_lt BS.out) id).trans BS.out); replace BX := hid ((u.block _ (heap_lt BX.out) id).trans BX.out)
  clear u m0 m1 m2
  obtain ⟨m0, m1, m2⟩ := sg_cells BS.out
  obtain ⟨n0, n1, n2⟩ := sg_cells BX.out
  have EQS : ∀ w, (binOp .eql 49 (.agg #[.int .i64 key, .string ⟨text.toArray⟩, .int .i64 mark]) (.agg #[.int .i64 key, .string ⟨text.toArray⟩, .int .i64 mark])).run Tryz.prog w = .ok (.bool true) w := fun w => eql_sg ⟨key, text, mark⟩ w
  have R1 := hid (kInts.mono (ints_rep RB.out (MIB.out _ HISA.out)) fun g hg => (hg.2 : g < y12.heap.size))
  have R2 := hid (kInts.mono (ints_rep RA.out (MIB.out _ HISB.out)) fun g hg => (hg.2 : g < y12.heap.size))
  go_wp2_with (first | go_quiet (fail) | fail)
  refine (within_any (· < y12.heap.size) (· < y12.heap.size) _ _ (marksF g1) (marksF g2) _ R1.out R2.out (marks_asc HISA.out) (marks_asc HISB.out) (fun x hx => (mem_marksF _ _).2 (K7.out x ((mem_marksF _ _).1 hx))) (Nat.le_trans (MLB.out _ HISA.out) (by decide)) (Nat.le_trans (MLB.out _ HISB.out) (by decide)) (fun _ h => h) (fun _ h => h)).mono ?_
  rintro en y13 ⟨rfl, u⟩
  replace R2 := hid (kInts.mono (kInts.keep R2.out (Same.of_upd u fun _ _ => id)) fun g hg => (Nat.lt_of_lt_of_le hg u.size : g < y13.heap.size))
  replace RB := hid (ownsRow_upd RB.out u fun _ _ => id); replace RA := hid (ownsRow_upd RA.out u fun _ _ => id); replace H3 := hid (H3.out.keep u); replace UX := hid (UX.out.trans u); replace BS := hid ((u.block _ (heap_lt BS.out) id).trans BS.out); replace BX := hid ((u.block _ (heap_lt BX.out) id).trans BX.out)
  have ML1 := hid (marksF_len g1); have ML2 := hid (marksF_len g2)
  clear u m0 m1 m2 n0 n1 n2 EQS R1
  obtain ⟨N1, hN1⟩ : ∃ n, (marksF g1).length = n := ⟨_, rfl⟩
  obtain ⟨N2, hN2⟩ : ∃ n, (marksF g2).length = n := ⟨_, rfl⟩
  have hN12 : N2 ≤ N1 + 1 := by have := K5.out; have := ML1.out; have := ML2.out; omega
  have tN : (N2 : Int) ≤ (N1 : Int) + 1 := by omega
  have dN : decide ((N2 : Int) ≤ (N1 : Int) + 1) = true := decide_eq_true tN
  have bN : (N1 : Int) + 1 ≤ 1000 := by have := MLB.out _ HISA.out; omega
  have hb1 : N1 ≤ cb := by rw [← hN1]; exact hb1
  have ha1 : N2 ≤ ca := by rw [← hN2]; exact ha1
  rw [hN1, hN2]
  go_wp2_with fail
  rw [← hN2] at *
  refine (hmarks_any H3.out.his).mono ?_
  rintro en y14 ⟨vz, rfl, ho, u⟩
  replace R2 := hid (kInts.mono (kInts.keep R2.out (Same.of_upd u fun _ _ => id)) fun g hg => (Nat.lt_of_lt_of_le hg u.size : g < y14.heap.size))
  have R3 := hid (kInts.mono (ints_rep ho (MIB.out _ HISB.out)) fun g hg => (hg.2 : g < y14.heap.size))
  replace UX := hid (UX.out.trans u)
  clear ho u
  go_wp2_with fail
  refine (ints8_any _ _ (marksF g2) (marksF g2) (· < y14.heap.size) (· < y14.heap.size) _ R2.out R3.out (fun _ h => h) (fun _ h => h)).mono ?_
  rintro en y15 ⟨rfl, u⟩
  rw [decide_eq_true rfl]
  have UZ := hid (UX.out.trans u)
  clear u
  go_wp2_with fail
  go_ret
  exact ⟨rfl, UZ.out⟩
theorem takes_card (v : Value) (l : List Po) (one : Int) (s : List UInt8) (w : World) (E : Env w) (hu : UsesIn w) (hz : 6 ≤ w.heap.size) (h : kPos.rep (· < w.heap.size) w [v] l) (_ : (Lit.int .i64 one).wf = true) (_ : s.length ≤ maxLen) : Calls Tryz.prog 4 #[v, .int .i64 one, .string ⟨s.toArray⟩] w fun e w' => e = .returned (.bool true) ∧ Below w.heap.size w w' :=
  (takes_walk v l one s w E hu hz h).mono fun _ _ ⟨a, u⟩ => ⟨a, u.below (Nat.le_refl _) fun _ q => q.elim⟩
end Go.Proofs.YtjkmalddfoemhaaGreatDoor
