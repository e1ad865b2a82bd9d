/- Walks: DagParts. -/
import Derived.Test.YtalhmpggpjbeaaaGreatDoorJ19
import Derived.Test.YtalhmpggpjbeaaaGreatDoorCDgAlike
import Derived.Test.YtalhmpggpjbeaaaGreatDoorCDgSpread
namespace Go.Proofs.YtalhmpggpjbeaaaGreatDoor
open Go.RowKit Go.Deep

/-- Whether a mark is named, or known by one of the first ones that are. -/
def inTo (h : Hs) (m : Int) (la : List Int) (k : Nat) : Bool := decide (m ∈ la) || (la.take k).any fun x => beforeB h m x
theorem inTo_zero (h : Hs) (m : Int) (la : List Int) : inTo h m la 0 = decide (m ∈ la) := by simp [inTo]
theorem inTo_succ {h : Hs} {m : Int} {la : List Int} {k : Nat} (hk : k < la.length) : inTo h m la (k + 1) = (inTo h m la k || beforeB h m la[k]) := by
  unfold inTo
  rw [List.take_succ_eq_append_getElem hk, List.any_append]
  simp [Bool.or_assoc]
theorem inTo_all {rd : List UInt8 → En × Int} {R : Rg} {h : Hs} (H : His rd R h) (hR : R.length ≤ 4000) {la : List Int} {m : Int} (hm : (idxF h m).isSome) : inTo h m la la.length = (idxF (restrictF rd R h la) m).isSome := by
  unfold inTo
  rw [List.take_length, Bool.eq_iff_iff, Bool.or_eq_true, decide_eq_true_eq, List.any_eq_true, has_part H hR la hm]
set_option maxRecDepth 100000 in
set_option maxHeartbeats 16000000 in
theorem parts_walk (v va vb : Value) (l : List Po) (la lb : List Int) (w : World) (E : Env w) (hu : UsesIn w) (hz : 6 ≤ w.heap.size) (h : kPos.rep (· < w.heap.size) w [v] l) (has : kInts.rep (· < w.heap.size) w [va] la) (hbs : kInts.rep (· < w.heap.size) w [vb] lb) : Calls Tryz.prog 5 #[v, va, vb] w fun e w' => e = .returned (.bool true) ∧ Upd (fun _ => False) w w' := by
  have AI := hid (ints_wf has)
  have BI := hid (ints_wf hbs)
  obtain ⟨aa, ca, rfl, hqa, hqa2, _⟩ := slice_open has
  have hqa2 : ca ≤ 9223372036854775807 := hqa2
  have AS := hid (fun (y : World) (u : Upd (fun _ => False) w y) => (show kInts.rep (· < w.heap.size) y [.slice aa la.length ca] la from kInts.keep has (Same.of_upd u fun _ _ => id)))
  obtain ⟨ab, cb, rfl, hqb, hqb2, _⟩ := slice_open hbs
  have hqb2 : cb ≤ 9223372036854775807 := hqb2
  have BS := hid (fun (y : World) (u : Upd (fun _ => False) w y) => (show kInts.rep (· < w.heap.size) y [.slice ab lb.length cb] lb from kInts.keep hbs (Same.of_upd u fun _ _ => id)))
  clear has hbs
  have HE := hid E; have HU := hid hu; have HZ := hid hz
  have HP0 := hid h
  obtain ⟨av, cv, rfl, _, hcv, _⟩ := slice_open h
  clear E hu hz h
  go_enter Tryz.func5, Tryz.ntmps5
  go_wp2_with fail
  refine (small_any w HE.out HU.out HZ.out).mono ?_
  rintro en x0 ⟨rfl, u⟩
  have U0 := hid u
  have HP := hid (kPos.mono (kPos.keep HP0.out (Same.of_upd u fun _ _ => id)) fun g hg => (Nat.lt_of_lt_of_le hg u.size : g < x0.heap.size))
  clear u HP0
  go_wp2_with fail
  refine (fewL_any _ _ l 16 _ HP.out (by decide)).mono ?_
  rintro en x1 ⟨rfl, u⟩
  by_cases hf : FewL l 16
  case neg =>
    rw [decide_eq_false hf]
    have U1 := hid (U0.out.trans u)
    clear u
    go_wp2_with fail
    go_ret
    exact ⟨rfl, U1.out⟩
  rw [decide_eq_true hf]
  replace U0 := hid (U0.out.trans u)
  replace HP := hid (kPos.mono (kPos.keep HP.out (Same.of_upd u fun _ _ => id)) fun g hg => (Nat.lt_of_lt_of_le hg u.size : g < x1.heap.size))
  have HF := hid hf
  clear u hf
  by_cases hl20 : la.length ≤ 20
  case neg =>
    have hl20i : (20 : Int) < la.length := by omega
    go_wp2_with fail
    go_ret
    exact ⟨rfl, U0.out⟩
  have hl20i : ¬ (20 : Int) < la.length := by omega
  by_cases hm20 : lb.length ≤ 20
  case neg =>
    have hm20i : (20 : Int) < lb.length := by omega
    go_wp2_with fail
    go_ret
    exact ⟨rfl, U0.out⟩
  have hm20i : ¬ (20 : Int) < lb.length := by omega
  go_wp2_with fail
  refine (signed_any _ l _ HP.out (by have := HF.out.1; omega) HF.out.2 (Nat.le_trans HZ.out U0.out.size)).mono ?_
  rintro en x2 ⟨r, vs, Or, rfl, q1, q2, q3, q4, u⟩
  have LI := hid (law_in HE.out HU.out HZ.out U0.out HP.out HF.out (by decide) q1 q2 q3 q4 u)
  obtain ⟨aS, cs, rfl, hs1, hs2⟩ := own_slice q2
  have hs2 : cs ≤ 9223372036854775807 := hs2
  clear q1 q2 q3 q4 u HP
  obtain ⟨R, hR⟩ : ∃ R, (signedF l).1 = R := ⟨_, rfl⟩
  obtain ⟨sl, hsl⟩ : ∃ sl, (signedF l).2 = sl := ⟨_, rfl⟩
  have GN := hid (hR ▸ LI.out.gnd : Gnd x2 Or r R)
  have SG := hid (hsl ▸ LI.out.sgs : SgsAt x2 x1.heap.size (.slice aS (signedF l).2.length cs) sl)
  have SS := hid (hsl ▸ LI.out.small : ∀ s ∈ sl, SgSmall s)
  have FW := hid (hR ▸ LI.out.few : R.length ≤ 60)
  have SLL := hid (show sl.length ≤ 60 by rw [← hsl, LI.out.len]; have := HF.out.1; omega)
  have UX := hid (U0.out.trans LI.out.upd)
  rw [hsl] at SG hs1 ⊢
  have LX := hid LI.out.upd.size; have LU := hid LI.out.upd
  clear LI hR hsl HF
  clear hl20i hm20i
  go_wp2_with fail
  refine (known_any GN.out FW.out SG.out (by have := SLL.out; omega) SS.out).mono ?_
  rintro en y1 ⟨b, O, hs, rfl, q1, q2, q3, q4, q5, u⟩
  have PA := hid q2; have FX1 := hid q3; have FR1 := hid q4
  have HA := hid (show HPre y1 O Or b r hs R from ⟨q1, GN.out.keep u, q2, fun k hk hk' => by have := (GN.out.ring.lt k hk).2; have := q5 k hk'; omega, FW.out⟩)
  have UC := hid u
  have RL := hid (show R.length ≤ 4000 from Nat.le_trans FW.out (by decide))
  clear q1 q2 q3 q4 q5 u
  go_wp2_with fail
  refine (hrestrict_any HA.out _ _ la (AS.out _ (UX.out.trans UC.out))).mono ?_
  rintro en z1 ⟨bx, Ox, rfl, q1, q2, u⟩
  have HX := hid (HA.out.made u q1 (restrict_ok PA.out RL.out la).1 q2)
  have NX := hid (show ∀ k, Ox k → x2.heap.size ≤ k from fun k hk => Nat.le_trans UC.out.size (q2 k hk))
  have DAX := hid (show ∀ k, O k → ¬ Ox k from fun k hk hk' => by have := (HA.out.his.lt k hk).2; have := q2 k hk'; omega)
  replace HA := hid (HA.out.keep u); replace UC := hid (UC.out.trans u)
  clear q1 q2 u
  go_wp2_with fail
  refine (hrestrict_any HA.out _ _ lb (BS.out _ (UX.out.trans UC.out))).mono ?_
  rintro en z2 ⟨bY, Oy, rfl, q1, q2, u⟩
  have HY := hid (HA.out.made u q1 (restrict_ok PA.out RL.out lb).1 q2)
  have DXY := hid (show ∀ k, Oy k → ¬ Ox k from fun k hk hk' => by have := (HX.out.his.lt k hk').2; have := q2 k hk; omega)
  replace HX := hid (HX.out.keep u); replace HA := hid (HA.out.keep u); replace UC := hid (UC.out.trans u)
  clear q1 q2 u
  obtain ⟨v1, w1, v2, w2, r1, r2, o2, u2⟩ := both_ints aa ab ca cb la lb z2 (fun g hg => Nat.lt_of_lt_of_le hg (UX.out.trans UC.out).size) (AS.out _ (UX.out.trans UC.out)) (BS.out _ (UX.out.trans UC.out)) (by omega)
  have RB := hid (ints_rep o2 fun x hx => (List.mem_append.1 hx).elim (AI.out x) (BI.out x))
  replace HX := hid (HX.out.keep u2); replace HY := hid (HY.out.keep u2); replace HA := hid (HA.out.keep u2); replace UC := hid (UC.out.trans u2)
  clear o2 u2
  go_wp2_with (at_builtin; first | refine wpList_append_run rfl _ _ _ _ rfl rfl rfl r1 ?_ | refine wpList_append_run rfl _ _ _ _ rfl rfl rfl r2 ?_)
  refine (hrestrict_any HA.out _ _ (la ++ lb) RB.out).mono ?_
  rintro en z3 ⟨bz, Oz, rfl, q1, q2, u⟩
  have HZB := hid (HA.out.made u q1 (restrict_ok PA.out RL.out (la ++ lb)).1 q2)
  have DXZ := hid (show ∀ k, Oz k → ¬ Ox k from fun k hk hk' => by have := (HX.out.his.lt k hk').2; have := q2 k hk; omega)
  replace HX := hid (HX.out.keep u); replace HY := hid (HY.out.keep u); replace HA := hid (HA.out.keep u); replace UC := hid (UC.out.trans u)
  clear q1 q2 u r1 r2 RB
  go_wp2_with fail
  refine (hcopy_any HX.out).mono ?_
  rintro en z4 ⟨bo, Oo, rfl, q1, q2, u⟩
  have CX := hid (copy_same HX.out.plain RL.out)
  have HO := hid (HX.out.made u q1 CX.out.1 q2)
  have DXO := hid (show ∀ k, Oo k → ¬ Ox k from fun k hk hk' => by have := (HX.out.his.lt k hk').2; have := q2 k hk; omega)
  replace HX := hid (HX.out.keep u); replace HY := hid (HY.out.keep u); replace HZB := hid (HZB.out.keep u); replace HA := hid (HA.out.keep u); replace UC := hid (UC.out.trans u)
  clear q1 q2 u
  go_wp2_with fail
  refine (hmarks_any HA.out.his).mono ?_
  rintro en y2 ⟨vm, rfl, ho, u⟩
  obtain ⟨am, cm, rfl, hm1, hm2⟩ := own_slice ho
  have hm2 : cm ≤ 9223372036854775807 := hm2
  have XLT := hid (fun k (hk : Ox k) => (HX.out.his.lt k hk).2)
  replace HX := hid (HX.out.keep u); replace HY := hid (HY.out.keep u); replace HZB := hid (HZB.out.keep u); replace HO := hid (HO.out.keep u); replace HA := hid (HA.out.keep u); replace UC := hid (UC.out.trans u)
  have hM60 : (marksF hs).length ≤ 60 := by rw [marksF_len]; exact Nat.le_trans PA.out.len FW.out
  have MI := hid (mark_i64 PA.out FW.out)
  obtain ⟨M, hM⟩ : ∃ M, (marksF hs).length = M := ⟨_, rfl⟩
  have HM := hid hM
  have MCELL := hid (fun (y : World) (u : Upd (fun _ => False) y2 y) (hp : 0 < (marksF hs).length) => (show ∃ g o, am = some ⟨g, o, none⟩ ∧ ∀ k (hk : k < (marksF hs).length), y.cell? ⟨g, o + k, none⟩ = some (.int .i64 (marksF hs)[k]) from by
    obtain ⟨a, c, e, _, _, h3⟩ := slice_open (ints_rep (ownsRow_upd ho u fun _ _ => id) MI.out)
    obtain ⟨g, o, ea, _, hel⟩ := h3 hp
    injection e with e1 _ _
    exact ⟨g, o, by rw [e1, ea], fun k hk => int_cells hel hk⟩))
  have OM := hid ho
  have ACELL := hid (fun (y : World) (u : Upd (fun _ => False) y2 y) (hp : 0 < la.length) => (show ∃ g o, aa = some ⟨g, o, none⟩ ∧ ∀ k (hk : k < la.length), y.cell? ⟨g, o + k, none⟩ = some (.int .i64 la[k]) from by
    obtain ⟨a, c, e, _, _, h3⟩ := slice_open (AS.out y (UX.out.trans (UC.out.trans u)))
    obtain ⟨g, o, ea, _, hel⟩ := h3 hp
    injection e with e1 _ _
    exact ⟨g, o, by rw [e1, ea], fun k hk => int_cells hel hk⟩))
  rw [hM] at hm1 hM60 ⊢
  clear ho u hM
  obtain ⟨N, hN⟩ : ∃ N, la.length = N := ⟨_, rfl⟩
  have HN := hid hN
  have hN20 : N ≤ 20 := by rw [← hN]; exact hl20
  rw [hN] at hqa ⊢
  clear hN hl20
  have START := hid (Upd.refl (fun _ => False) y2)
  go_wp2_with fail
  go_loopg [16] M (fun gg s16 wr => ∃ k : Nat, k ≤ M ∧ gg = M - k ∧ s16 = .int .i64 k ∧ Upd (fun _ => False) y2 wr)
  case atStart => exact ⟨0, Nat.zero_le _, rfl, rfl, START.out⟩
  case round =>
    obtain ⟨i, hi, hg, rfl, hu⟩ := hrel
    have UP := hid hu; have HG := hid hg
    clear hu hg START
    by_cases hlt : i < M
    case neg =>
      as_aux_lemma =>
      have hlti : ¬ (i : Int) < M := by omega
      have u := UP.out
      replace HX := hid (HX.out.keep u); replace HY := hid (HY.out.keep u); replace HZB := hid (HZB.out.keep u); replace HO := hid (HO.out.keep u); replace HA := hid (HA.out.keep u); replace UC := hid (UC.out.trans u); replace OM := hid (ownsRow_upd OM.out u fun _ _ => id)
      clear u UP MCELL ACELL
      go_wp2_with fail
      refine (hrestrict_any HX.out _ _ lb (BS.out _ (UX.out.trans UC.out))).mono ?_
      rintro en z5 ⟨bp, Op, rfl, q1, q2, u⟩
      have HP := hid (HX.out.made u q1 (restrict_ok HX.out.plain RL.out lb).1 q2)
      have DXP := hid (show ∀ k, Op k → ¬ Ox k from fun k hk hk' => by have := (HX.out.his.lt k hk').2; have := q2 k hk; omega)
      replace HX := hid (HX.out.keep u); replace HY := hid (HY.out.keep u); replace HZB := hid (HZB.out.keep u); replace HO := hid (HO.out.keep u); replace HA := hid (HA.out.keep u); replace UC := hid (UC.out.trans u); replace OM := hid (ownsRow_upd OM.out u fun _ _ => id)
      clear q1 q2 u
      have JB := hid (join_both PA.out RL.out la lb)
      go_wp2_with fail
      refine (hjoin_any HX.out HY.out.his HY.out.plain).mono ?_
      rintro en z6 ⟨rfl, Ox2, q1, q2, u⟩
      rw [JB.out.1]
      have PXX := hid HX.out.plain
      have HX2 := hid (HX.out.grown u q1 JB.out.2.1 q2)
      have HY2 := hid (HY.out.upd u DXY.out HX.out.apart fun k hk => (HX.out.his.lt k hk).1)
      have HZ2 := hid (HZB.out.upd u DXZ.out HX.out.apart fun k hk => (HX.out.his.lt k hk).1)
      have HO2 := hid (HO.out.upd u DXO.out HX.out.apart fun k hk => (HX.out.his.lt k hk).1)
      have HA2 := hid (HA.out.upd u DAX.out HX.out.apart fun k hk => (HX.out.his.lt k hk).1)
      have HP2 := hid (HP.out.upd u DXP.out HX.out.apart fun k hk => (HX.out.his.lt k hk).1)
      have OM2 := hid (ownsRow_upd OM.out u fun g hg hk => by have := (own_lt OM.out g hg).1; have := XLT.out g hk; omega)
      have UC2 := hid (UC.out.comp u fun q hq e => by have := NX.out q e; omega)
      clear q1 q2 u HX HY HZB HO HA HP OM UC DXY DXZ DXO DAX DXP NX XLT
      have OC := hid (fun (y : World) (u : Upd (fun _ => False) z6 y) (hp : 0 < (marksF hs).length) => (show ∃ g o, am = some ⟨g, o, none⟩ ∧ ∀ k (hk : k < (marksF hs).length), y.cell? ⟨g, o + k, none⟩ = some (.int .i64 (marksF hs)[k]) from by
        obtain ⟨a, c, e, _, _, h3⟩ := slice_open (ints_rep (ownsRow_upd OM2.out u fun _ _ => id) MI.out)
        obtain ⟨g, o, ea, _, hel⟩ := h3 hp
        injection e with e1 _ _
        exact ⟨g, o, by rw [e1, ea], fun k hk => int_cells hel hk⟩))
      have START := hid (Upd.refl (fun _ => False) z6)
      go_wp2_with fail
      go_loopg [21] M (fun gg s21 wr => ∃ k : Nat, k ≤ M ∧ gg = M - k ∧ s21 = .int .i64 k ∧ Upd (fun _ => False) z6 wr)
      case atStart => exact ⟨0, Nat.zero_le _, rfl, rfl, START.out⟩
      case round =>
        obtain ⟨j, hj, hg, rfl, hu⟩ := hrel
        have UP := hid hu; have HGJ := hid hg
        clear hu hg START
        by_cases hlj : j < M
        case neg =>
          as_aux_lemma =>
          have hlji : ¬ (j : Int) < M := by omega
          have EB := hid (JB.out.2.2.marks JB.out.2.1 HZ2.out.plain)
          have EO := hid (show marksF (restrictF rdF R (restrictF rdF R hs la) (marksF (restrictF rdF R hs la))) = downL hs la from (CX.out.2.marks CX.out.1 PXX.out).trans (down_marks PA.out RL.out la))
          have UB := hid (UC2.out.trans UP.out)
          replace HX2 := hid (HX2.out.keep UP.out); replace HZ2 := hid (HZ2.out.keep UP.out); replace HO2 := hid (HO2.out.keep UP.out); replace HA2 := hid (HA2.out.keep UP.out)
          go_wp2_with fail
          refine (hsame_any HX2.out.his HZ2.out.his JB.out.2.1 HZ2.out.plain (Nat.le_trans FW.out (by decide))).mono ?_
          rintro en z7 ⟨rfl, u⟩
          rw [decide_eq_true EB.out]
          replace HO2 := hid (HO2.out.keep u); replace HA2 := hid (HA2.out.keep u); replace UB := hid (UB.out.trans u)
          clear u HX2 HZ2
          go_wp2_with fail
          refine (hmarks_any HO2.out.his).mono ?_
          rintro en z8 ⟨vx, rfl, ox, u⟩
          have QX := hid ox
          replace HA2 := hid (HA2.out.keep u); replace UB := hid (UB.out.trans u)
          clear u ox
          go_wp2_with fail
          refine (hdown_any HA2.out.his _ _ la (by have := AS.out _ (UX.out.trans UB.out); rw [HN.out] at this; exact this)).mono ?_
          rintro en z9 ⟨vy, rfl, oy, u⟩
          have QY := hid oy
          replace QX := hid (ownsRow_upd QX.out u fun _ _ => id)
          replace HA2 := hid (HA2.out.keep u); replace UB := hid (UB.out.trans u)
          clear u oy
          go_wp2_with fail
          refine (ints8_any _ _ _ (downL hs la) _ _ _ (ints_rep QX.out (mark_i64 HO2.out.plain FW.out)) (ints_rep QY.out (down_i64 PA.out FW.out la)) (fun _ q => q.2) (fun _ q => q.2)).mono ?_
          rintro en z10 ⟨rfl, u⟩
          rw [decide_eq_true EO.out]
          replace HA2 := hid (HA2.out.keep u); replace UB := hid (UB.out.trans u)
          clear u QX QY
          go_wp2_with fail
          refine (known_any HA2.out.gnd FW.out (ownsRow_upd SG.out UB.out fun _ _ => id) (by have := SLL.out; omega) SS.out).mono ?_
          rintro en z11 ⟨bk, Ok, hk, rfl, q1, q2, q3, q4, q5, u⟩
          have SM := hid (fix_same PA.out q2 RL.out (fun _ => Iff.rfl) FR1.out FX1.out q4 q3)
          have HK := hid q1; have PK := hid q2
          replace HA2 := hid (HA2.out.keep u); replace UB := hid (UB.out.trans u)
          clear q1 q2 q3 q4 q5 u
          go_wp2_with fail
          refine (hsame_any HA2.out.his HK.out PA.out PK.out (Nat.le_trans FW.out (by decide))).mono ?_
          rintro en z12 ⟨rfl, u⟩
          rw [decide_eq_true (SM.out.marks PA.out PK.out)]
          replace UB := hid (UB.out.trans u)
          clear u
          go_wp2_with fail
          go_ret
          exact ⟨rfl, UX.out.trans UB.out⟩
        as_aux_lemma =>
        have hlji : (j : Int) < M := by omega
        have hj1 : (j : Int) + 1 ≤ 1000 := by omega
        have hjl : j < (marksF hs).length := by rw [HM.out]; exact hlj
        obtain ⟨g, o, rfl, hcell⟩ := OC.out _ UP.out (by omega)
        have m0 := hcell j hjl
        obtain ⟨m, hme⟩ : ∃ m, (marksF hs)[j] = m := ⟨_, rfl⟩
        have MW := hid (show (Lit.int .i64 m).wf = true from iwf (by have := MI.out _ (List.getElem_mem hjl); rw [hme] at this; exact this))
        rw [hme] at m0
        clear hcell hme
        obtain ⟨pb, hpb⟩ : ∃ pb, (idxF (restrictF rdF R (restrictF rdF R hs la) lb) m).isSome = pb := ⟨_, rfl⟩
        have HPB := hid hpb
        clear hpb
        go_wp2_with fail
        refine (hhas_any (HP2.out.keep UP.out).his m MW.out).mono ?_
        rintro en yy ⟨rfl, rfl⟩
        rw [HPB.out]
        cases pb with
        | false =>
          go_wp2_with fail
          go_roundg (M - (j + 1))
          case measure => have := HGJ.out; omega
          case rel => exact ⟨j + 1, by omega, rfl, by go_num, UP.out⟩
        | true =>
          have PP := hid (part_part PA.out RL.out la lb HPB.out)
          have PO := hid ((CX.out.2 m).2 PP.out.1)
          go_wp2_with fail
          refine (hhas_any (HO2.out.keep UP.out).his m MW.out).mono ?_
          rintro en yy ⟨rfl, rfl⟩
          rw [PO.out]
          go_wp2_with fail
          refine (hhas_any (HY2.out.keep UP.out).his m MW.out).mono ?_
          rintro en yy ⟨rfl, rfl⟩
          rw [PP.out.2]
          go_wp2_with fail
          go_roundg (M - (j + 1))
          case measure => have := HGJ.out; omega
          case rel => exact ⟨j + 1, by omega, rfl, by go_num, UP.out⟩
    have hlti : (i : Int) < M := by omega
    have hi1 : (i : Int) + 1 ≤ 1000 := by omega
    have hil : i < (marksF hs).length := by rw [HM.out]; exact hlt
    obtain ⟨g, o, rfl, _⟩ := MCELL.out _ (Upd.refl _ _) (by omega)
    obtain ⟨m, hme⟩ : ∃ m, (marksF hs)[i] = m := ⟨_, rfl⟩
    have MIS := hid (show (idxF hs m).isSome from (mem_marksF hs m).1 (hme ▸ List.getElem_mem hil))
    have MW := hid (show (Lit.int .i64 m).wf = true from iwf (by have := MI.out _ (List.getElem_mem hil); rw [hme] at this; exact this))
    have MC := hid (fun (y : World) (u : Upd (fun _ => False) y2 y) => (show y.cell? ⟨g, o + i, none⟩ = some (.int .i64 m) from by
      obtain ⟨g', o', e, q⟩ := MCELL.out y u (by omega)
      cases e
      have := q i hil
      rw [hme] at this
      exact this))
    clear hme
    have ITA := hid (inTo_all PA.out RL.out (la := la) MIS.out)
    have ASR := hid (fun (y : World) (u : Upd (fun _ => False) y2 y) => (show kInts.rep (· < w.heap.size) y [.slice aa N ca] la from by have := AS.out y (UX.out.trans (UC.out.trans u)); rw [HN.out] at this; exact this))
    have m0 := MC.out _ UP.out
    go_wp2_with fail
    refine (lhas_any _ _ la m _ (ASR.out _ UP.out)).mono ?_
    rintro en yy ⟨rfl, rfl⟩
    rw [← inTo_zero hs m la]
    go_wp2_with fail
    clear m0
    go_loopg [17, 18] N (fun gg s17 s18 wx => ∃ n : Nat, n ≤ N ∧ gg = N - n ∧ s17 = .bool (inTo hs m la n) ∧ s18 = .int .i64 n ∧ Upd (fun _ => False) y2 wx)
    case atStart => exact ⟨0, Nat.zero_le _, rfl, rfl, rfl, UP.out⟩
    case round =>
      obtain ⟨n, hn, hg, rfl, rfl, hu⟩ := hrel
      have UN := hid hu; have HGN := hid hg
      clear hu hg UP
      by_cases hln : n < N
      case pos =>
        as_aux_lemma =>
        have hlni : (n : Int) < N := by omega
        have hnk1 : (n : Int) + 1 ≤ 1000 := by omega
        have hlx : n < la.length := by rw [HN.out]; exact hln
        obtain ⟨kb, ko, rfl, hcell⟩ := ACELL.out _ UN.out (by omega)
        have m2 := hcell n hlx
        have TS := hid (inTo_succ (h := hs) (m := m) hlx)
        obtain ⟨y, hy⟩ : ∃ y, la[n] = y := ⟨_, rfl⟩
        have YW := hid (show (Lit.int .i64 y).wf = true from iwf (by have := AI.out _ (List.getElem_mem hlx); rw [hy] at this; exact this))
        rw [hy] at m2 TS
        clear hcell hy
        obtain ⟨tb, htb⟩ : ∃ tb, inTo hs m la n = tb := ⟨_, rfl⟩
        rw [htb] at TS ⊢
        clear htb
        obtain ⟨bb, hbb⟩ : ∃ bb, beforeB hs m y = bb := ⟨_, rfl⟩
        have BB := hid hbb
        rw [hbb] at TS
        clear hbb
        go_upto_region 24 with (fail)
        have m1p := fun p : UW wr => p.cell (MC.out _ UN.out)
        have m2p := fun p : UW wr => p.cell m2
        have BEFP := fun p : UW wr => hbefore_any ((HA.out.keep UN.out).his.keep p.u) m y MW.out YW.out
        rw [BB.out] at BEFP
        clear m2
        cases tb with
        | true =>
          refine region_upd (by kernel_rfl) (by kernel_rfl) ?_
          repeat (go_big_quiet_step (fail))
          refine wpQuiet_nil ?_
          intro _ hw1
          refine uw_out hw1 ?_
          rintro w9 u1 e
          obtain rfl := e.symm
          clear e hw1 m1p m2p BEFP
          go_wp2_with fail
          go_roundg (N - (n + 1))
          case measure => have := HGN.out; omega
          case rel => exact ⟨n + 1, by omega, rfl, by rw [TS.out]; rfl, by go_num, UN.out.trans u1⟩
        | false =>
          refine region_upd (by kernel_rfl) (by kernel_rfl) ?_
          repeat (go_big_quiet_step ((go_at_call 30; exact Calls.upd_same (BEFP _))))
          refine wpQuiet_nil ?_
          intro _ hw1
          refine uw_out hw1 ?_
          rintro w9 u1 e
          obtain rfl := e.symm
          clear e hw1 m1p m2p BEFP
          go_wp2_with fail
          go_roundg (N - (n + 1))
          case measure => have := HGN.out; omega
          case rel => exact ⟨n + 1, by omega, rfl, by rw [TS.out]; rfl, by go_num, UN.out.trans u1⟩
      as_aux_lemma =>
      have hlni : ¬ (n : Int) < N := by omega
      obtain ⟨ib, hib⟩ : ∃ ib, (idxF (restrictF rdF R hs la) m).isSome = ib := ⟨_, rfl⟩
      have HIB := hid hib
      have HTH : inTo hs m la n = ib := by rw [show n = la.length by rw [HN.out]; omega, ITA.out, hib]
      rw [HTH]
      clear HTH hib hn HGN
      go_upto_region 25 with (fail)
      cases ib with
      | false =>
        have m1p := fun p : UW wr => p.cell (MC.out _ UN.out)
        have HASP := fun p : UW wr => hhas_any ((HX.out.keep UN.out).his.keep p.u) m MW.out
        rw [HIB.out] at HASP
        refine region_upd (by kernel_rfl) (by kernel_rfl) ?_
        repeat (go_big_quiet_step ((go_at_call 22; exact Calls.upd_same (HASP _))))
        refine wpQuiet_nil ?_
        intro _ hw1
        refine uw_out hw1 ?_
        rintro w9 u1 e
        obtain rfl := e.symm
        clear e hw1 m1p HASP
        go_wp2_with fail
        go_roundg (M - (i + 1))
        case measure => have := HG.out; omega
        case rel => exact ⟨i + 1, by omega, rfl, by go_num, UN.out.trans u1⟩
      | true =>
        have HLV := hid (level_both HX.out.plain PA.out (show (idxF (restrictF rdF R hs la) m).isSome from HIB.out) MIS.out)
        have HPV := hid (past_both HX.out.plain PA.out (show (idxF (restrictF rdF R hs la) m).isSome from HIB.out) MIS.out)
        have KEEP := hid (fun (y : World) (u : Upd (fun _ => False) wr y) => MC.out y (UN.out.trans u))
        refine wp_region_g (fun w' => w'.cell? ⟨g, o + i, none⟩ = some (.int .i64 m)) 37 (by kernel_rfl) ?_
        obtain ⟨wd, hwd⟩ : ∃ wd, wr.drew = wd := ⟨_, rfl⟩
        have ud : Upd (fun _ => False) wr wd := by rw [← hwd]; exact (Upd.refl _ _).drew
        have hS := KEEP.out wd ud
        have UD := hid ud
        have HXW := hid (HX.out.keep (UN.out.trans ud)).his; have HAW := hid (HA.out.keep (UN.out.trans ud)).his
        rw [hwd]
        clear hwd ud
        refine g_take0 (i := 0) rfl (by kernel_rfl) (by kernel_rfl) (by kernel_rfl) (by decide) (fun _ _ _ h => h) (yields_move (by kernel_rfl) _ rfl rfl) (fun _ => hS) ?_
        (try simp only [List.getElem_toArray, List.getElem_cons_zero, List.getElem_cons_succ])
        (try go_frame)
        refine g_take0 (i := 1) rfl (by kernel_rfl) (by kernel_rfl) (by kernel_rfl) (by decide) (fun _ _ _ h => h) (yields_move (by kernel_rfl) _ rfl rfl) (fun _ => hS) ?_
        (try simp only [List.getElem_toArray, List.getElem_cons_zero, List.getElem_cons_succ])
        (try go_frame)
        refine g_take0 (i := 2) rfl (by kernel_rfl) (by kernel_rfl) (by kernel_rfl) (by decide) (fun _ _ _ h => h) (yields_move (by kernel_rfl) _ rfl rfl) (fun _ => hS) ?_
        (try simp only [List.getElem_toArray, List.getElem_cons_zero, List.getElem_cons_succ])
        (try go_frame)
        refine g_take0 (i := 3) rfl (by kernel_rfl) (by kernel_rfl) (by kernel_rfl) (by decide) (fun _ _ _ h => h) (yields_index (by kernel_rfl) _ _ _ rfl rfl rfl (fun w _ => ints_index hlt hm1 hm2 w)) (fun _ => hS) ?_
        (try simp only [List.getElem_toArray, List.getElem_cons_zero, List.getElem_cons_succ])
        (try go_frame)
        refine g_takeP [37, 24, 10, 8, 7, 5] (i := 4) rfl (by kernel_rfl) (by kernel_rfl) (by kernel_rfl) (by kernel_rfl) (fun _ _ _ h => h) (yields_load (by kernel_rfl) _ _ rfl rfl (fun w hw => intl_load hw)) hS ?_
        (try simp only [List.getElem_toArray, List.getElem_cons_zero, List.getElem_cons_succ])
        (try go_frame)
        refine g_take0 (i := 6) rfl (by kernel_rfl) (by kernel_rfl) (by kernel_rfl) (by decide) (fun _ _ _ h => h) (yields_move (by kernel_rfl) _ rfl rfl) (fun _ => hS) ?_
        (try simp only [List.getElem_toArray, List.getElem_cons_zero, List.getElem_cons_succ])
        (try go_frame)
        refine g_op (i := 5) (by kernel_rfl) rfl ?_
        go_wp2_with fail
        refine (hhas_any HXW.out m MW.out).mono ?_
        rintro en yy ⟨rfl, rfl⟩
        rw [HIB.out]
        go_wp2_with fail
        first | (with_reducible refine And.intro (fun _ => hS) ?_) | (with_reducible refine And.intro (by first | assumption | (intro _; assumption)) ?_) | skip
        (try simp only [List.getElem_toArray, List.getElem_cons_zero, List.getElem_cons_succ])
        (try go_frame)
        refine g_op (i := 7) (by kernel_rfl) rfl ?_
        go_wp2_with fail
        first | (with_reducible refine And.intro (fun _ => hS) ?_) | (with_reducible refine And.intro (by first | assumption | (intro _; assumption)) ?_) | skip
        (try simp only [List.getElem_toArray, List.getElem_cons_zero, List.getElem_cons_succ])
        (try go_frame)
        refine g_op (i := 8) (by kernel_rfl) rfl ?_
        go_wp2_with fail
        first | (with_reducible refine And.intro (fun _ => hS) ?_) | (with_reducible refine And.intro (by first | assumption | (intro _; assumption)) ?_) | skip
        (try simp only [List.getElem_toArray, List.getElem_cons_zero, List.getElem_cons_succ])
        (try go_frame)
        refine g_take0 (i := 9) rfl (by kernel_rfl) (by kernel_rfl) (by kernel_rfl) (by decide) (fun _ _ _ h => h) (yields_move (by kernel_rfl) _ rfl rfl) (fun _ => hS) ?_
        (try simp only [List.getElem_toArray, List.getElem_cons_zero, List.getElem_cons_succ])
        (try go_frame)
        refine g_op (i := 10) (by kernel_rfl) rfl ?_
        go_wp2_with fail
        first | (with_reducible refine And.intro (fun _ => hS) ?_) | (with_reducible refine And.intro (by first | assumption | (intro _; assumption)) ?_) | skip
        (try simp only [List.getElem_toArray, List.getElem_cons_zero, List.getElem_cons_succ])
        (try go_frame)
        refine g_take0 (i := 11) rfl (by kernel_rfl) (by kernel_rfl) (by kernel_rfl) (by decide) (fun _ _ _ h => h) (yields_move (by kernel_rfl) _ rfl rfl) (fun _ => hS) ?_
        (try simp only [List.getElem_toArray, List.getElem_cons_zero, List.getElem_cons_succ])
        (try go_frame)
        refine g_take0 (i := 12) rfl (by kernel_rfl) (by kernel_rfl) (by kernel_rfl) (by decide) (fun _ _ _ h => h) (yields_move (by kernel_rfl) _ rfl rfl) (fun _ => hS) ?_
        (try simp only [List.getElem_toArray, List.getElem_cons_zero, List.getElem_cons_succ])
        (try go_frame)
        refine g_take0 (i := 13) rfl (by kernel_rfl) (by kernel_rfl) (by kernel_rfl) (by decide) (fun _ _ _ h => h) (yields_move (by kernel_rfl) _ rfl rfl) (fun _ => hS) ?_
        (try simp only [List.getElem_toArray, List.getElem_cons_zero, List.getElem_cons_succ])
        (try go_frame)
        refine g_take0 (i := 14) rfl (by kernel_rfl) (by kernel_rfl) (by kernel_rfl) (by decide) (fun _ _ _ h => h) (yields_index (by kernel_rfl) _ _ _ rfl rfl rfl (fun w _ => ints_index hlt hm1 hm2 w)) (fun _ => hS) ?_
        (try simp only [List.getElem_toArray, List.getElem_cons_zero, List.getElem_cons_succ])
        (try go_frame)
        refine g_takeP [37, 24, 23, 16] (i := 15) rfl (by kernel_rfl) (by kernel_rfl) (by kernel_rfl) (by kernel_rfl) (fun _ _ _ h => h) (yields_load (by kernel_rfl) _ _ rfl rfl (fun w hw => intl_load hw)) hS ?_
        (try simp only [List.getElem_toArray, List.getElem_cons_zero, List.getElem_cons_succ])
        (try go_frame)
        refine g_take0 (i := 17) rfl (by kernel_rfl) (by kernel_rfl) (by kernel_rfl) (by decide) (fun _ _ _ h => h) (yields_move (by kernel_rfl) _ rfl rfl) (fun _ => hS) ?_
        (try simp only [List.getElem_toArray, List.getElem_cons_zero, List.getElem_cons_succ])
        (try go_frame)
        refine g_take0 (i := 18) rfl (by kernel_rfl) (by kernel_rfl) (by kernel_rfl) (by decide) (fun _ _ _ h => h) (yields_move (by kernel_rfl) _ rfl rfl) (fun _ => hS) ?_
        (try simp only [List.getElem_toArray, List.getElem_cons_zero, List.getElem_cons_succ])
        (try go_frame)
        refine g_take0 (i := 19) rfl (by kernel_rfl) (by kernel_rfl) (by kernel_rfl) (by decide) (fun _ _ _ h => h) (yields_move (by kernel_rfl) _ rfl rfl) (fun _ => hS) ?_
        (try simp only [List.getElem_toArray, List.getElem_cons_zero, List.getElem_cons_succ])
        (try go_frame)
        refine g_take0 (i := 20) rfl (by kernel_rfl) (by kernel_rfl) (by kernel_rfl) (by decide) (fun _ _ _ h => h) (yields_index (by kernel_rfl) _ _ _ rfl rfl rfl (fun w _ => ints_index hlt hm1 hm2 w)) (fun _ => hS) ?_
        (try simp only [List.getElem_toArray, List.getElem_cons_zero, List.getElem_cons_succ])
        (try go_frame)
        refine g_takeP [37, 24, 23, 22] (i := 21) rfl (by kernel_rfl) (by kernel_rfl) (by kernel_rfl) (by kernel_rfl) (fun _ _ _ h => h) (yields_load (by kernel_rfl) _ _ rfl rfl (fun w hw => intl_load hw)) hS ?_
        (try simp only [List.getElem_toArray, List.getElem_cons_zero, List.getElem_cons_succ])
        (try go_frame)
        refine g_op (i := 16) (by kernel_rfl) rfl ?_
        go_wp2_with fail
        refine (hlevel_any HXW.out m MW.out).mono ?_
        rintro en yy ⟨rfl, rfl⟩
        rw [HLV.out]
        go_wp2_with fail
        first | (with_reducible refine And.intro (fun _ => hS) ?_) | (with_reducible refine And.intro (by first | assumption | (intro _; assumption)) ?_) | skip
        (try simp only [List.getElem_toArray, List.getElem_cons_zero, List.getElem_cons_succ])
        (try go_frame)
        refine g_op (i := 22) (by kernel_rfl) rfl ?_
        go_wp2_with fail
        refine (hlevel_any HAW.out m MW.out).mono ?_
        rintro en yy ⟨rfl, rfl⟩
        go_wp2_with fail
        first | (with_reducible refine And.intro (fun _ => hS) ?_) | (with_reducible refine And.intro (by first | assumption | (intro _; assumption)) ?_) | skip
        (try simp only [List.getElem_toArray, List.getElem_cons_zero, List.getElem_cons_succ])
        (try go_frame)
        refine g_op (i := 23) (by kernel_rfl) rfl ?_
        go_wp2_with fail
        first | (with_reducible refine And.intro (fun _ => hS) ?_) | (with_reducible refine And.intro (by first | assumption | (intro _; assumption)) ?_) | skip
        (try simp only [List.getElem_toArray, List.getElem_cons_zero, List.getElem_cons_succ])
        (try go_frame)
        refine g_op (i := 24) (by kernel_rfl) rfl ?_
        go_wp2_with fail
        first | (with_reducible refine And.intro (fun _ => hS) ?_) | (with_reducible refine And.intro (by first | assumption | (intro _; assumption)) ?_) | skip
        (try simp only [List.getElem_toArray, List.getElem_cons_zero, List.getElem_cons_succ])
        (try go_frame)
        refine g_take0 (i := 25) rfl (by kernel_rfl) (by kernel_rfl) (by kernel_rfl) (by decide) (fun _ _ _ h => h) (yields_move (by kernel_rfl) _ rfl rfl) (fun _ => hS) ?_
        (try simp only [List.getElem_toArray, List.getElem_cons_zero, List.getElem_cons_succ])
        (try go_frame)
        refine g_take0 (i := 26) rfl (by kernel_rfl) (by kernel_rfl) (by kernel_rfl) (by decide) (fun _ _ _ h => h) (yields_move (by kernel_rfl) _ rfl rfl) (fun _ => hS) ?_
        (try simp only [List.getElem_toArray, List.getElem_cons_zero, List.getElem_cons_succ])
        (try go_frame)
        refine g_take0 (i := 27) rfl (by kernel_rfl) (by kernel_rfl) (by kernel_rfl) (by decide) (fun _ _ _ h => h) (yields_move (by kernel_rfl) _ rfl rfl) (fun _ => hS) ?_
        (try simp only [List.getElem_toArray, List.getElem_cons_zero, List.getElem_cons_succ])
        (try go_frame)
        refine g_take0 (i := 28) rfl (by kernel_rfl) (by kernel_rfl) (by kernel_rfl) (by decide) (fun _ _ _ h => h) (yields_index (by kernel_rfl) _ _ _ rfl rfl rfl (fun w _ => ints_index hlt hm1 hm2 w)) (fun _ => hS) ?_
        (try simp only [List.getElem_toArray, List.getElem_cons_zero, List.getElem_cons_succ])
        (try go_frame)
        refine g_takeP [37, 30] (i := 29) rfl (by kernel_rfl) (by kernel_rfl) (by kernel_rfl) (by kernel_rfl) (fun _ _ _ h => h) (yields_load (by kernel_rfl) _ _ rfl rfl (fun w hw => intl_load hw)) hS ?_
        (try simp only [List.getElem_toArray, List.getElem_cons_zero, List.getElem_cons_succ])
        (try go_frame)
        refine g_take0 (i := 31) rfl (by kernel_rfl) (by kernel_rfl) (by kernel_rfl) (by decide) (fun _ _ _ h => h) (yields_move (by kernel_rfl) _ rfl rfl) (fun _ => hS) ?_
        (try simp only [List.getElem_toArray, List.getElem_cons_zero, List.getElem_cons_succ])
        (try go_frame)
        refine g_take0 (i := 32) rfl (by kernel_rfl) (by kernel_rfl) (by kernel_rfl) (by decide) (fun _ _ _ h => h) (yields_move (by kernel_rfl) _ rfl rfl) (fun _ => hS) ?_
        (try simp only [List.getElem_toArray, List.getElem_cons_zero, List.getElem_cons_succ])
        (try go_frame)
        refine g_take0 (i := 33) rfl (by kernel_rfl) (by kernel_rfl) (by kernel_rfl) (by decide) (fun _ _ _ h => h) (yields_move (by kernel_rfl) _ rfl rfl) (fun _ => hS) ?_
        (try simp only [List.getElem_toArray, List.getElem_cons_zero, List.getElem_cons_succ])
        (try go_frame)
        refine g_take0 (i := 34) rfl (by kernel_rfl) (by kernel_rfl) (by kernel_rfl) (by decide) (fun _ _ _ h => h) (yields_index (by kernel_rfl) _ _ _ rfl rfl rfl (fun w _ => ints_index hlt hm1 hm2 w)) (fun _ => hS) ?_
        (try simp only [List.getElem_toArray, List.getElem_cons_zero, List.getElem_cons_succ])
        (try go_frame)
        refine g_takeP [37, 36] (i := 35) rfl (by kernel_rfl) (by kernel_rfl) (by kernel_rfl) (by kernel_rfl) (fun _ _ _ h => h) (yields_load (by kernel_rfl) _ _ rfl rfl (fun w hw => intl_load hw)) hS ?_
        (try simp only [List.getElem_toArray, List.getElem_cons_zero, List.getElem_cons_succ])
        (try go_frame)
        refine g_want (i := 30) (by kernel_rfl) rfl (by kernel_rfl) ?_
        go_wp2_with fail
        refine (hpast_any HXW.out m MW.out).mono ?_
        rintro en y1' ⟨v1', rfl, ow, u⟩
        have Q1 := hid ow
        have UE := hid (UD.out.trans u)
        have V1 := hid u
        clear UD
        have UD := UE
        clear UE
        have hS1 := KEEP.out y1' UD.out
        replace HXW := hid (HXW.out.keep u); replace HAW := hid (HAW.out.keep u)
        clear ow u
        go_wp2_with fail
        first | (with_reducible refine And.intro (fun _ => hS1) ?_) | (with_reducible refine And.intro (by first | assumption | (intro _; assumption)) ?_) | skip
        (try simp only [List.getElem_toArray, List.getElem_cons_zero, List.getElem_cons_succ])
        (try go_frame)
        refine g_want (i := 36) (by kernel_rfl) rfl (by kernel_rfl) ?_
        go_wp2_with fail
        refine (hpast_any HAW.out m MW.out).mono ?_
        rintro en y2' ⟨v2', rfl, ow, u⟩
        have Q2 := hid ow
        have UE := hid (UD.out.trans u)
        have V2 := hid u
        clear UD
        have UD := UE
        clear UE
        have hS2 := KEEP.out y2' UD.out
        replace HXW := hid (HXW.out.keep u); replace HAW := hid (HAW.out.keep u)
        clear ow u
        go_wp2_with fail
        first | (with_reducible refine And.intro (fun _ => hS2) ?_) | (with_reducible refine And.intro (by first | assumption | (intro _; assumption)) ?_) | skip
        (try simp only [List.getElem_toArray, List.getElem_cons_zero, List.getElem_cons_succ])
        (try go_frame)
        refine g_want (i := 37) (by kernel_rfl) rfl (by kernel_rfl) ?_
        go_wp2_with fail
        refine (ints8_any _ _ (pastF (restrictF rdF R hs la) m) (pastF hs m) _ _ _ (ints_rep (ownsRow_upd Q1.out V2.out fun _ _ => id) (past_i64 HX.out.plain FW.out m)) (ints_rep Q2.out (past_i64 PA.out FW.out m)) (fun _ q => q.2) (fun _ q => q.2)).mono ?_
        rintro en y3' ⟨rfl, u⟩
        rw [decide_eq_true HPV.out]
        have UE := hid (UD.out.trans u)
        clear u UD
        go_wp2_with fail
        first | (with_reducible refine And.intro (fun h => absurd h (by simp)) ?_) | skip
        (try simp only [List.getElem_toArray, List.getElem_cons_zero, List.getElem_cons_succ])
        (try go_frame)
        refine g_op (i := 38) (by kernel_rfl) rfl ?_
        go_wp2_with fail
        first | (with_reducible refine And.intro (fun h => absurd h (by simp)) ?_) | skip
        (try simp only [List.getElem_toArray, List.getElem_cons_zero, List.getElem_cons_succ])
        (try go_frame)
        refine g_op (i := 39) (by kernel_rfl) rfl ?_
        go_wp2_with fail
        first | (with_reducible refine And.intro (fun h => absurd h (by simp)) ?_) | skip
        (try simp only [List.getElem_toArray, List.getElem_cons_zero, List.getElem_cons_succ])
        (try go_frame)
        refine g_op (i := 40) (by kernel_rfl) rfl ?_
        go_wp2_with fail
        first | (with_reducible refine And.intro (fun h => absurd h (by simp)) ?_) | skip
        (try simp only [List.getElem_toArray, List.getElem_cons_zero, List.getElem_cons_succ])
        (try go_frame)
        refine g_op (i := 41) (by kernel_rfl) rfl ?_
        go_wp2_with fail
        first | (with_reducible refine And.intro (fun h => absurd h (by simp)) ?_) | skip
        (try simp only [List.getElem_toArray, List.getElem_cons_zero, List.getElem_cons_succ])
        (try go_frame)
        refine g_done (by kernel_rfl) ?_
        go_wp2_with fail
        go_roundg (M - (i + 1))
        case measure => have := HG.out; omega
        case rel => exact ⟨i + 1, by omega, rfl, by go_num, UN.out.trans UE.out⟩
theorem parts_card (v : Value) (l : List Po) (va : Value) (la : List Int) (vb : Value) (lb : List Int) (w : World) (E : Env w) (hu : UsesIn w) (hz : 6 ≤ w.heap.size) (h : kPos.rep (· < w.heap.size) w [v] l) (has : kInts.rep (· < w.heap.size) w [va] la) (hbs : kInts.rep (· < w.heap.size) w [vb] lb) : Calls Tryz.prog 5 #[v, va, vb] w fun e w' => e = .returned (.bool true) ∧ Below w.heap.size w w' :=
  (parts_walk v va vb l la lb w E hu hz h has hbs).mono fun _ _ ⟨a, u⟩ => ⟨a, u.below (Nat.le_refl _) fun _ q => q.elim⟩
end Go.Proofs.YtalhmpggpjbeaaaGreatDoor
