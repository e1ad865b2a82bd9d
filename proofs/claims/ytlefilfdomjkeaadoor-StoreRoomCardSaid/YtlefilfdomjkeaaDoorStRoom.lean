/- The statement StoreRoom: the walk. -/
import Derived.Test.YtlefilfdomjkeaaDoorStRmP
namespace Go.Proofs.YtlefilfdomjkeaaDoor
open Go.RowKit Go.Deep
/-- A new store that is filled with one record. -/
def FillAt (w wB : World) (nb np p q p2 q2 i x : Nat) (wr : World) : Prop :=
  ∃ (O : Nat → Prop) (F : Fl) (S : St), Shop w wr O p2 q2 F x S ∧ Quiet i nb np F S ∧ S.next = i ∧ limitP S.ats S.next = 0 ∧ S.recs.length = i ∧ S.first = 0 ∧ FlashAt wr p q (Fl.new nb np) ∧ (¬ O p ∧ ¬ O q)
/-- A store that is filled from some state on. -/
def MoreAt (w : World) (nb np j0 n0 p q m x : Nat) (wr : World) : Prop :=
  ∃ (O : Nat → Prop) (F : Fl) (S : St), Shop w wr O p q F x S ∧ Quiet (j0 + m) nb np F S ∧ S.next = n0 + m ∧ limitP S.ats S.next ≤ n0
theorem FillAt.step {w wB : World} {nb np p q p2 q2 i x : Nat} {O : Nat → Prop} {S : St} {wr w' : World} {G : Fl} {T : St} (f : FlashAt wr p q (Fl.new nb np)) (ho : ¬ O p ∧ ¬ O q) (pl : p < wr.heap.size ∧ q < wr.heap.size) (mv : Moved w O wr w' p2 q2 G x T) (qu : Quiet (i + 1) nb np G T) {r : List UInt8} (hT : T = { S with next := S.next + 1, recs := S.recs ++ [r], ats := S.ats ++ [S.next] }) (hn : S.next = i) (hl : limitP S.ats S.next = 0) (hr : S.recs.length = i) (h0 : S.first = 0) : FillAt w wB nb np p q p2 q2 (i + 1) x w' := by
  obtain ⟨O', sh, so, hb⟩ := mv
  refine ⟨O', G, T, sh, qu, by rw [hT]; show S.next + 1 = i + 1; rw [hn], ?_, by rw [hT]; show (S.recs ++ [r]).length = i + 1; rw [List.length_append, hr]; rfl, by rw [hT]; exact h0, f.upd so (fun e => ho.1 e.1) (fun e => ho.2 e.1) (fun k hk => hk.2), ?_, ?_⟩
  · rw [hT]; show limitP (S.ats ++ [S.next]) (S.next + 1) = 0; rw [limit_snoc]; exact hl
  · intro e; rcases hb p e with h | h
    · exact ho.1 h
    · omega
  · intro e; rcases hb q e with h | h
    · exact ho.2 h
    · omega
set_option maxRecDepth 100000 in
set_option maxHeartbeats 4000000 in
theorem room_walk (x0 x1 : Int) (v : Value) (l : List OpS) (r : List UInt8) (w : World) (E : Env w) (hz : 6 ≤ w.heap.size) (h0 : (Lit.int .u8 x0).wf = true) (h1 : (Lit.int .u8 x1).wf = true) (hl : (kSlice kOpS).rep (· < w.heap.size) w [v] l) (hr : r.length ≤ maxLen) :
    Calls Tryd.prog 4 #[.int .u8 x0, .int .u8 x1, v, .string ⟨r.toArray⟩] w fun e w' => e = .returned (.bool true) ∧ Upd (fun _ => False) w w' := by
  have b0 := bounds_u8 h0
  have b1 := bounds_u8 h1
  clear h0 h1
  obtain ⟨nb, hnb⟩ := Int.eq_ofNat_of_zero_le (by omega : 0 ≤ 2 + x0 % 5)
  obtain ⟨np, hnp⟩ := Int.eq_ofNat_of_zero_le (by omega : 0 ≤ 1 + x1 % 6)
  have hb : 2 ≤ nb ∧ nb ≤ 6 := by omega
  have hp : 1 ≤ np ∧ np ≤ 6 := by omega
  have hnbi : (nb : Int) ≤ 6 := by omega
  have hnpi : (np : Int) ≤ 6 := by omega
  obtain ⟨a, c, rfl, hc1, hc2, hel⟩ := slice_open hl
  have hc2 : c ≤ 9223372036854775807 := hc2
  have hr : r.length ≤ 9223372036854775807 := hr
  have HE := hid E; have HZ := hid hz; have HL := hid hl; have HB := hid hb; have HP := hid hp
  obtain ⟨N, hN⟩ : ∃ N, (nb - 1) * np = N := ⟨_, rfl⟩
  obtain ⟨M, hM⟩ : ∃ M, nb * np = M := ⟨_, rfl⟩
  obtain ⟨n1, hn1⟩ : ∃ n1, nb - 1 = n1 := ⟨_, rfl⟩
  have f1 : (nb : Int) - 1 = n1 := by omega
  have f2 : (n1 : Int) * np = N := by rw [← hN, hn1, Int.natCast_mul]
  have f3 : (nb : Int) * np = M := by rw [← hM, Int.natCast_mul]
  have hM36 : M ≤ 36 := by rw [← hM]; exact Nat.mul_le_mul hb.2 hp.2
  have hNM : N + np = M := by rw [← hN, ← hM, Nat.sub_mul]; have := Nat.mul_le_mul_right np hb.1; omega
  have hMi : (M : Int) ≤ 36 := by omega
  have hNi : (N : Int) ≤ 36 := by omega
  have n1i : (n1 : Int) ≤ 5 := by omega
  have HN := hid hN; have HM := hid hM; have HNM := hid (And.intro hNM hM36)
  clear E hz hl hel hb hp hN hM hn1 hM36 hNM
  go_enter Tryd.func4, Tryd.ntmps4
  go_wp2_with fail
  refine (small_any w HE.out HZ.out).mono ?_
  rintro e w1 ⟨rfl, u1⟩
  have U1 := hid u1
  have HL1 := hid ((kSlice kOpS).keep HL.out (Same.of_upd u1 fun _ _ => id))
  clear u1
  go_wp2_with fail
  refine (fewS_any _ l w1 ((kSlice kOpS).mono HL1.out fun g hg => Nat.lt_of_lt_of_le hg U1.out.size)).mono ?_
  rintro e w2 ⟨rfl, u2⟩
  have U2 := hid (U1.out.trans u2)
  have HL2 := hid ((kSlice kOpS).keep HL1.out (Same.of_upd u2 fun _ _ => id))
  clear u2 U1 HL1
  cases hfew : fewS l with
  | false =>
    go_wp2_with fail
    go_ret
    exact ⟨rfl, U2.out⟩
  | true =>
    obtain ⟨hl40, hs300⟩ := fewS_true hfew
    have HL40 := hid hl40; have HS := hid hs300
    clear hfew hl40 hs300
    by_cases hr20 : r.length ≤ 20
    case neg =>
      have hr20i : (20 : Int) < r.length := by omega
      go_wp2_with fail
      go_ret
      exact ⟨rfl, U2.out⟩
    have hr20i : ¬ (20 : Int) < r.length := by omega
    have HR20 := hid hr20
    clear hr20
    go_wp2_with fail
    refine (new_ok nb np w2 (by have := HB.out; omega) (by have := HP.out; omega)).mono ?_
    rintro e w3 ⟨p, q, hp3, hq3, rfl, f3', u3⟩
    have F3 := hid f3'; have PQ3 := hid (And.intro hp3 hq3); have U3 := hid (U2.out.trans u3)
    have PQL := hid (show p < w3.heap.size ∧ q < w3.heap.size from by obtain ⟨cap, k1⟩ := f3'.head; obtain ⟨cs, k2, _⟩ := f3'.rows; exact ⟨heap_lt k1, heap_lt k2⟩)
    clear f3' hp3 hq3 u3
    go_wp2_with fail
    refine (new_ok nb np w3 (by have := HB.out; omega) (by have := HP.out; omega)).mono ?_
    rintro e w4 ⟨p2, q2, hp4, hq4, rfl, f4, u4⟩
    have F4 := hid f4; have PQ4 := hid (And.intro hp4 hq4); have U4 := hid (U3.out.trans u4)
    have FF := hid (F3.out.upd u4 id id fun _ h => h.elim)
    have SZ4 := hid u4.size
    clear f4 hp4 hq4 u4
    obtain ⟨so1, so2, so3, so4⟩ := (tidy_new (nb := nb) (np := np) ⟨HB.out.1, by have := HB.out; omega⟩ ⟨HP.out.1, by have := HP.out; omega⟩).sopen (Nat.zero_le _)
    have OC := hid (shop_open F4.out (Nat.le_trans U3.out.size PQ4.out.1) (Nat.le_trans U3.out.size PQ4.out.2) U4.out so1 so2 so3 so4 HE.out HZ.out (new_open ⟨HB.out.1, by have := HB.out; omega⟩ ⟨HP.out.1, by have := HP.out; omega⟩))
    clear so1 so2 so3 so4
    go_wp2_with fail
    refine OC.out.mono ?_
    rintro e w5 ⟨x, rfl, ⟨O5, sh5, ho5⟩, s5⟩
    clear OC
    have START := hid (show FillAt w w4 nb np p q p2 q2 0 x w5 from by
      have h1 := PQL.out; have h2 := PQ4.out; have h3 := SZ4.out
      refine ⟨O5, _, _, sh5, quiet_new HB.out HP.out, rfl, rfl, rfl, rfl, FF.out.upd s5 (fun e => ?_) (fun e => ?_) (fun k hk => hk.2), fun e => ?_, fun e => ?_⟩
      · rcases e.1 with e | e <;> omega
      · rcases e.1 with e | e <;> omega
      · rcases ho5 p e with h | h | h <;> omega
      · rcases ho5 q e with h | h | h <;> omega)
    have S45 := hid s5.size
    clear sh5 ho5 s5
    go_wp2_with fail
    go_loopg [18] (N + 1) (fun gg s18 wr => ∃ i : Nat, s18 = .int .i64 i ∧ i ≤ N ∧ gg = N + 1 - i ∧ FillAt w w4 nb np p q p2 q2 i x wr)
    case atStart => exact ⟨0, rfl, Nat.zero_le _, rfl, START.out⟩
    case round =>
      obtain ⟨i, rfl, hi, hg, O, F, S, sh, qu, hnx, hlim, hrl, hf0, ff, hpo⟩ := hrel
      have SH := hid sh; have QU := hid qu; have HNX := hid hnx; have HLIM := hid hlim; have HRL := hid hrl; have HF0 := hid hf0; have FFl := hid ff; have HPO := hid hpo; have HG := hid hg
      have J8 := hid (show i ≤ 800 ∧ i + 1 ≤ 800 from by have := HNM.out; omega)
      have OK := hid (qu.ok HB.out.2 HP.out.2 J8.out.1)
      have PLR := hid (show p < wr.heap.size ∧ q < wr.heap.size from by obtain ⟨cap, k1⟩ := ff.head; obtain ⟨cs, k2, _⟩ := ff.rows; exact ⟨heap_lt k1, heap_lt k2⟩)
      clear sh qu hnx hlim hrl hf0 ff hpo hg START
      obtain ⟨R, hR⟩ : ∃ R, appendP F S r = R := ⟨_, rfl⟩
      obtain ⟨q1, q2'⟩ := QU.out.short HB.out.2 HP.out.2 J8.out.1 HR20.out hR
      rw [HLIM.out, HNX.out, fits_new HB.out.1 (by have := HP.out; omega), HN.out] at q2'
      have Q1 := hid q1; have Q2 := hid q2'
      have AC := hid (fun (wq : World) (s : Shop w wq O p2 q2 F x S) => shop_append s OK.out HE.out HZ.out QU.out.tidy.live.up r (Nat.le_trans HR20.out (by decide)) hR)
      obtain ⟨G, T, er⟩ := R
      dsimp only at Q1 Q2 AC
      have HR6 := hid hR
      clear q1 q2' hR
      by_cases hin : i < N
      case pos =>
        have hini : (i : Int) < N := by omega
        obtain ⟨rfl, hT⟩ : er = 0 ∧ T = { S with next := S.next + 1, recs := S.recs ++ [r], ats := S.ats ++ [S.next] } := by
          rcases Q2.out with ⟨_, h1, h2⟩ | ⟨h1, _⟩
          · rw [← HNX.out] at h2; exact ⟨h1, by rw [h2]⟩
          · exact absurd hin h1
        have HT := hid hT
        clear hT
        go_wp2_with fail
        refine (AC.out _ SH.out).mono ?_
        rintro e w6 ⟨rfl, mv⟩
        have NXT := hid (FillAt.step (wB := w4) FFl.out HPO.out PLR.out mv Q1.out HT.out HNX.out HLIM.out HRL.out HF0.out)
        clear mv
        go_wp2_with fail
        go_roundg (N + 1 - (i + 1))
        case measure => have := HG.out; omega
        case rel => exact ⟨i + 1, by go_num, hin, rfl, NXT.out⟩
      obtain rfl : i = N := by omega
      have hini : ¬ (i : Int) < i := by omega
      obtain ⟨rfl, rfl, rfl⟩ : er = 6 ∧ G = F ∧ T = S := by
        rcases Q2.out with ⟨h1, _⟩ | ⟨_, h1, h2, h3⟩
        · exact absurd h1 hin
        · exact ⟨h1, h2, h3⟩
      have AFULL := HR6
      have LENV := hid (show T.len = i by unfold St.len; rw [HF0.out, HRL.out, Nat.zero_add])
      clear hin
      go_wp2_with fail
      refine (AC.out _ SH.out).mono ?_
      rintro e w6 ⟨rfl, O6, sh6, so6, hb6⟩
      have SH6 := hid sh6; have FF6 := hid (FFl.out.upd so6 (fun e => HPO.out.1 e.1) (fun e => HPO.out.2 e.1) (fun k hk => hk.2))
      have HPO6 := hid (show ¬ O6 p ∧ ¬ O6 q from by
        have := PLR.out
        constructor
        · intro e; rcases hb6 p e with h | h
          · exact HPO.out.1 h
          · omega
        · intro e; rcases hb6 q e with h | h
          · exact HPO.out.2 h
          · omega)
      clear sh6 so6 hb6
      go_wp2_with fail
      refine (shop_len SH6.out OK.out).mono ?_
      rintro e w7 ⟨rfl, u7⟩
      rw [LENV.out]
      have SH7 := hid (SH6.out.upd u7); have FF7 := hid (FF6.out.upd u7 id id fun _ h => h.elim)
      clear u7
      go_wp2_with fail
      refine (shop_append SH7.out OK.out HE.out HZ.out QU.out.tidy.live.up r (Nat.le_trans HR20.out (by decide)) (AFULL.out)).mono ?_
      rintro e w8 ⟨rfl, O8, sh8, so8, hb8⟩
      have FF8 := hid (FF7.out.upd so8 (fun e => HPO6.out.1 e.1) (fun e => HPO6.out.2 e.1) (fun k hk => hk.2)); have U8 := hid sh8.2.2
      clear sh8 so8 hb8
      have PLR8 := hid (show p < w8.heap.size ∧ q < w8.heap.size from by have ff := FF8.out; obtain ⟨cap, k1⟩ := ff.head; obtain ⟨cs, k2, _⟩ := ff.rows; exact ⟨heap_lt k1, heap_lt k2⟩)
      have QC := hid (quiet_any (w0 := w) (w := w8) (nb := nb) (np := np) HB.out HP.out FF8.out (Nat.le_trans U2.out.size PQ3.out.1) (Nat.le_trans U2.out.size PQ3.out.2) U8.out HE.out HZ.out
        ((kSlice kOpS).mono ((kSlice kOpS).keep HL.out (Same.of_upd U8.out fun _ _ => id)) fun g hg => (show g < w8.heap.size ∧ g ≠ p ∧ g ≠ q from by
          have h1 := PQ3.out; have h2 := U2.out.size; have h3 := U8.out.size; exact ⟨by omega, by omega, by omega⟩)) HS.out (Nat.le_trans HL40.out (by decide)))
      clear AC SH SH6 SH7 FF6 FF7 FFl Q1 Q2
      go_wp2_with fail
      refine QC.out.mono ?_
      rintro e w9 ⟨y, O9, F9, S9, rfl, sh9, qu9, _, _⟩
      clear QC
      obtain ⟨j0, hj0⟩ : ∃ j0, l.length = j0 := ⟨_, rfl⟩
      obtain ⟨n0, hn0⟩ : ∃ n0, S9.next = n0 := ⟨_, rfl⟩
      rw [hj0] at qu9
      have J40 := hid (show j0 ≤ 40 by rw [← hj0]; exact HL40.out)
      have START2 := hid (show MoreAt w nb np j0 n0 p q 0 y w9 from ⟨O9, F9, S9, sh9, qu9, hn0, by rw [← hn0]; exact qu9.limit⟩)
      clear sh9 qu9 hj0 hn0
      have fM1 : (M : Int) + 1 ≤ 37 := by omega
      go_wp2_with fail
      go_loopg [21] (i + 2) (fun gg s21 wr => ∃ m : Nat, s21 = .int .i64 m ∧ m ≤ i ∧ gg = i + 2 - m ∧ MoreAt w nb np j0 n0 p q m y wr)
      case atStart => exact ⟨0, rfl, Nat.zero_le _, rfl, START2.out⟩
      case round =>
        obtain ⟨m, rfl, hm, hg2, O, F, S, sh, qu, hnx, hlim⟩ := hrel
        have SH := hid sh; have QU := hid qu; have HNX := hid hnx; have HLIM := hid hlim; have HG2 := hid hg2
        have J8 := hid (show j0 + m ≤ 800 ∧ j0 + m + 1 ≤ 800 ∧ j0 + m + 5 ≤ 800 from by have := HNM.out; have := J40.out; omega)
        have OK := hid (qu.ok HB.out.2 HP.out.2 J8.out.1)
        have hmi : (m : Int) < (M : Int) + 1 := by have := HNM.out; omega
        have hmM : (m : Int) ≤ M := by have := HNM.out; omega
        clear sh qu hnx hlim hg2 START2
        obtain ⟨R, hR⟩ : ∃ R, appendP F S r = R := ⟨_, rfl⟩
        obtain ⟨q1, q2'⟩ := QU.out.short HB.out.2 HP.out.2 J8.out.1 HR20.out hR
        have Q1 := hid q1; have Q2 := hid q2'; have HR := hid hR
        have AC := hid (shop_append SH.out OK.out HE.out HZ.out QU.out.tidy.live.up r (Nat.le_trans HR20.out (by decide)) hR)
        obtain ⟨G, T, er⟩ := R
        dsimp only at Q1 Q2 AC
        clear q1 q2' hR
        by_cases her : er = 0
        case pos =>
          subst her
          obtain ⟨hfit, hT⟩ : ((S.next + np) / np + 1) * np ≤ limitP S.ats S.next + nb * np ∧ T = { S with next := S.next + 1, recs := S.recs ++ [r], ats := S.ats ++ [S.next] } := by
            rcases Q2.out with ⟨h0, _, h2⟩ | ⟨_, h1, _⟩
            · exact ⟨h0, h2⟩
            · exact absurd h1 (by decide)
          have hfew := fits_few (by have := HP.out; omega) hfit
          have hm1 : m + 1 ≤ i := by have h1 := HLIM.out; have h2 := HNX.out; have h3 := HNM.out; have h4 := HM.out; omega
          have HT := hid hT
          clear hT hfit hfew
          go_wp2_with fail
          refine AC.out.mono ?_
          rintro e wn ⟨rfl, On, shn, _, _⟩
          have NXT := hid (show MoreAt w nb np j0 n0 p q (m + 1) y wn from ⟨On, G, T, shn, Q1.out, by rw [HT.out]; show S.next + 1 = n0 + (m + 1); have := HNX.out; omega, by rw [HT.out]; show limitP (S.ats ++ [S.next]) (S.next + 1) ≤ n0; rw [limit_snoc]; exact HLIM.out⟩)
          clear shn AC
          go_wp2_with fail
          go_roundg (i + 2 - (m + 1))
          case measure => have := HG2.out; omega
          case rel => exact ⟨m + 1, by go_num, hm1, rfl, NXT.out⟩
        obtain ⟨rfl, rfl, rfl⟩ : er = 6 ∧ G = F ∧ T = S := by
          rcases Q2.out with ⟨_, h1, _⟩ | ⟨_, h1, h2, h3⟩
          · exact absurd h1 her
          · exact ⟨h1, h2, h3⟩
        clear her
        obtain ⟨sn, hsn⟩ : ∃ sn, T.recs.length = sn := ⟨_, rfl⟩
        have snI : (sn : Int) ≤ 900000 := by have := OK.out.len; unfold St.len at this; omega
        have SN := hid hsn
        clear hsn
        go_wp2_with fail
        refine AC.out.mono ?_
        rintro e wa ⟨rfl, Oa, sha, _, _⟩
        have SHa := hid sha
        clear sha AC
        go_wp2_with fail
        refine (shop_all SHa.out OK.out).mono ?_
        rintro e wb ⟨⟨ab, cb, rfl, _, _⟩, ub⟩
        have SHb := hid (SHa.out.upd ub)
        rw [SN.out]
        clear ub SHa
        have ACb := hid (shop_append SHb.out OK.out HE.out HZ.out QU.out.tidy.live.up r (Nat.le_trans HR20.out (by decide)) HR.out)
        go_wp2_with fail
        refine ACb.out.mono ?_
        rintro e wc ⟨rfl, Oc, shc, _, _⟩
        have SHc := hid shc
        clear shc ACb SHb
        go_wp2_with fail
        refine (shop_all SHc.out OK.out).mono ?_
        rintro e wd ⟨⟨ad, cd, rfl, _, _⟩, ud⟩
        have SHd := hid (SHc.out.upd ud)
        rw [SN.out]
        clear ud SHc
        -- all records are dropped
        obtain ⟨R1, hR1⟩ : ∃ R, dropP G T (sn : Int) = R := ⟨_, rfl⟩
        obtain ⟨d1, d2⟩ := QU.out.drop HB.out.2 HP.out.2 J8.out.1 (sn : Int) hR1
        have DC := hid (shop_drop SHd.out OK.out HE.out HZ.out QU.out.tidy.live.up (sn : Int) ⟨by omega, by omega⟩ hR1)
        obtain ⟨G1, T1, e1⟩ := R1
        dsimp only at d1 d2 DC
        obtain ⟨rfl, hrec⟩ : e1 = 0 ∧ T1.recs = [] := by
          rcases d2 with ⟨h1, _, _, h2⟩ | ⟨_, _, _, h⟩
          · exact ⟨h1, by rw [h2, Int.toNat_natCast, ← SN.out, List.drop_length]⟩
          · have := SN.out; omega
        have D1 := hid d1; have HREC := hid hrec
        have OK1 := hid (d1.ok HB.out.2 HP.out.2 J8.out.2.1)
        have L1 := hid (show T1.recs.length = 0 by rw [hrec]; rfl)
        obtain ⟨R2, hR2⟩ : ∃ R, appendP G1 T1 r = R := ⟨_, rfl⟩
        obtain ⟨a1, a2⟩ := D1.out.short HB.out.2 HP.out.2 J8.out.2.1 HR20.out hR2
        have ats0 : T1.ats = [] := List.eq_nil_of_length_eq_zero (by rw [d1.same, hrec]; rfl)
        rw [ats0] at a2
        have AC2 := hid (fun (wq : World) (Oq : Nat → Prop) (s : Shop w wq Oq p q G1 y T1) => shop_append s OK1.out HE.out HZ.out D1.out.tidy.live.up r (Nat.le_trans HR20.out (by decide)) hR2)
        obtain ⟨G2, T2, e2⟩ := R2
        dsimp only at a1 a2 AC2
        obtain ⟨rfl, hT2⟩ : e2 = 0 ∧ T2.recs = [r] := by
          rcases a2 with ⟨_, h1, h2⟩ | ⟨h, _⟩
          · exact ⟨h1, by rw [h2, hrec]; rfl⟩
          · exact absurd (fits_free HB.out.1 (by have := HP.out; omega)) h
        have A1 := hid a1
        have OK2 := hid (a1.ok HB.out.2 HP.out.2 (by have := J8.out.2.2; omega))
        have L2 := hid (show T2.recs.length = 1 by rw [hT2]; rfl)
        have DR2 := hid (show dropP G2 T2 2 = (G2, T2, 1) by unfold dropP; rw [if_pos (.inr (by rw [hT2]; show (1 : Int) < 2; decide))])
        have DR3 := hid (show dropP G2 T2 (-1) = (G2, T2, 1) by unfold dropP; rw [if_pos (.inl (by decide))])
        clear d1 d2 a1 a2 hR1 hR2 hT2 hrec ats0
        go_wp2_with fail
        refine DC.out.mono ?_
        rintro e we ⟨rfl, Oe, she, _, _⟩
        have SHe := hid she
        clear she DC SHd
        go_wp2_with fail
        refine (shop_all SHe.out OK1.out).mono ?_
        rintro e wf ⟨⟨af, cf, rfl, _, _⟩, uf⟩
        have SHf := hid (SHe.out.upd uf)
        rw [L1.out]
        clear uf SHe
        go_wp2_with fail
        refine (AC2.out _ _ SHf.out).mono ?_
        rintro e wg ⟨rfl, Og, shg, _, _⟩
        have SHg := hid shg
        clear shg AC2 SHf
        go_wp2_with fail
        refine (shop_all SHg.out OK2.out).mono ?_
        rintro e wh ⟨⟨ah, ch, rfl, _, _⟩, uh⟩
        have SHh := hid (SHg.out.upd uh)
        rw [L2.out]
        clear uh SHg
        go_wp2_with fail
        refine (shop_drop SHh.out OK2.out HE.out HZ.out A1.out.tidy.live.up 2 (by unfold I64; omega) DR2.out).mono ?_
        rintro e wi ⟨rfl, Oi, shi, _, _⟩
        have SHi := hid shi
        clear shi SHh
        go_wp2_with fail
        refine (shop_drop SHi.out OK2.out HE.out HZ.out A1.out.tidy.live.up (-1) (by unfold I64; omega) DR3.out).mono ?_
        rintro e wj ⟨rfl, Oj, shj, _, _⟩
        have UJ := hid shj.2.2
        clear shj SHi
        go_wp2_with fail
        go_ret
        exact ⟨rfl, UJ.out⟩
theorem room_card (x0 x1 : Int) (v : Value) (l : List OpS) (r : List UInt8) (w : World) (E : Env w) (hz : 6 ≤ w.heap.size) (h0 : (Lit.int .u8 x0).wf = true) (h1 : (Lit.int .u8 x1).wf = true) (hl : (kSlice kOpS).rep (· < w.heap.size) w [v] l) (hr : r.length ≤ maxLen) :
    Calls Tryd.prog 4 #[.int .u8 x0, .int .u8 x1, v, .string ⟨r.toArray⟩] w fun e w' => e = .returned (.bool true) ∧ Below w.heap.size w w' :=
  (room_walk x0 x1 v l r w E hz h0 h1 hl hr).mono fun _ _ h => ⟨h.1, h.2.below (Nat.le_refl _) fun _ h => h.elim⟩
end Go.Proofs.YtlefilfdomjkeaaDoor
