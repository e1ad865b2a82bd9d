/- The walk of SmsRefuses. -/
import Derived.Test.YtabnniabofhihaaDoorSmMsgs
namespace Go.Proofs.YtabnniabofhihaaDoor
open Go.RowKit Go.Deep

theorem cell_nx2 {w w' : World} {a : Addr} {v : Value} (h : w.cell? a = some v) (u : Upd (fun _ => False) w w') : w'.cell? a = some v := cell_kept h (u.block a.block (World.block_lt_of_cell? _ _ h) id)

set_option maxRecDepth 100000 in
set_option maxHeartbeats 8000000 in
theorem refuses_walk (l : List Bs) (v0 : Value) (w : World) (E : Env w) (hz : 6 ≤ w.heap.size) (h0 : kStrs.rep (· < w.heap.size) w [v0] l) :
    Calls Tryd.prog 6 #[v0] w fun e w' => e = .returned (.bool true) ∧ Upd (fun _ => False) w w' := by
  have HE := hid E; have HZ := hid hz; have H0 := hid h0
  obtain ⟨ma, mc, rfl, hm1, hm2, _⟩ := slice_open h0
  clear E hz h0 hm2 hm1
  by_cases t1 : FewS l 60
  · have HF := hid t1
    have HN := hid (show l.length ≤ 60 from t1.1)
    clear t1
    go_enter Tryd.func6, Tryd.ntmps6
    go_wp2_with fail
    refine (small_any w HE.out HZ.out).mono ?_
    rintro e w1 ⟨rfl, u⟩
    have U1 := hid u; clear u
    go_wp2_with fail
    refine (fewS_any _ l 60 w1 (kStrs.mono (kStrs.keep H0.out (Same.of_upd U1.out fun _ _ => id)) fun g hg => Nat.lt_of_lt_of_le hg U1.out.size) (by decide)).mono ?_
    rintro e w2 ⟨b, rfl, hb, u⟩
    have U2 := hid (U1.out.trans u)
    obtain rfl : b = true := hb.2 HF.out
    clear u hb
    go_wp2_with fail
    refine (new_any w2 (Nat.le_trans HZ.out U2.out.size)).mono ?_
    rintro e w3 ⟨rfl, hb, u⟩
    obtain ⟨b, hbb⟩ : ∃ x, w2.heap.size + 1 = x := ⟨_, rfl⟩
    rw [hbb] at hb ⊢
    have R0 := hid (show RefSt w b [] _ w3 from ⟨hb, fun k hk => Nat.le_trans U2.out.size hk.1, U2.out.trans u⟩)
    clear hb u hbb
    go_wp2_with fail
    go_loopg [5] l.length (fun gg s5 wr => ∃ (i : Nat) (bx : Bx) (O : Nat → Prop), i ≤ l.length ∧ gg = l.length - i ∧ s5 = .int .i64 i ∧ RefSt w b bx O wr)
    case atStart => exact ⟨0, _, _, Nat.zero_le _, rfl, rfl, R0.out⟩
    case round =>
      clear R0
      obtain ⟨i, bx, O, hi, hg, rfl, hr⟩ := hrel
      have HGG := hid hg; have R := hid hr
      clear hg hr
      by_cases hlt : i < l.length
      · have hlti : (i : Int) < l.length := by omega
        obtain ⟨pb, po, ra, hpb, hel⟩ := slice_at H0.out (by omega)
        subst ra
        have hsl := HF.out.2 _ (List.getElem_mem hlt)
        have HC := hid (show ∀ W, Upd (fun _ => False) w W → W.cell? ⟨pb, po + i, none⟩ = some (.string ⟨(l[i]).toArray⟩) from fun W hW => cell_kept (str_cells hel hlt) (hW.block pb hpb id))
        clear hel
        generalize l[i] = s at *
        have HSL := hid (show s.length ≤ 10000000 by omega)
        have c0 := HC.out wr R.out.upd
        obtain ⟨ix, bs, hpr⟩ := partR_eq s
        obtain ⟨pid, hpid⟩ : ∃ x, pidF s = x := ⟨_, rfl⟩
        obtain ⟨cnt, hcnt⟩ : ∃ x, pcntF s = x := ⟨_, rfl⟩
        obtain ⟨pe, hpe⟩ : ∃ x, perrF s = x := ⟨_, rfl⟩
        have HPID := hid (show (Lit.int .i64 pid).wf = true by rw [← hpid]; exact pid_ok s)
        have hcb := pcnt_ok s
        have hge := takeF_err bx s
        rw [hpid, hcnt, hpe] at hpr
        rw [hcnt] at hcb
        rw [hpe] at hge
        have hpe2 : pe = 0 ∨ pe = 2 := by rw [← hpe]; unfold perrF; cases partF s <;> simp
        have hib : (i : Int) + 1 ≤ 1000 := by have := HN.out; omega
        obtain ⟨⟨m0, f0⟩, hm0⟩ : ∃ x, missF bx pid = x := ⟨_, rfl⟩
        obtain ⟨⟨d0, k0⟩, hd0⟩ : ∃ x, doneX bx pid = x := ⟨_, rfl⟩
        have hdn := fun (h : k0 = true) => takeF_done (s := s) R.out.box.ok (by rw [hpid, hd0]; exact h)
        rw [hpid, hd0] at hdn
        have HPR := hid hpr; have HM0 := hid hm0; have HD0 := hid hd0
        by_cases hg0 : (takeF bx s).1 = 0
        · have hag := takeF_again hg0
          rw [hpid, hcnt] at hag
          have hpe0 : pe = 0 := by
            rcases hpe2 with h | h
            · exact h
            · have := hge.2 h; omega
          subst hpe0
          have HG0 := hid hg0; have HG1 := hid hag.1
          obtain ⟨⟨m1, f1⟩, hm1⟩ : ∃ x, missF (takeF bx s).2 pid = x := ⟨_, rfl⟩
          obtain ⟨⟨d1, k1⟩, hd1⟩ : ∃ x, doneX (takeF bx s).2 pid = x := ⟨_, rfl⟩
          have hm2 := hag.2.1
          have hf1 := hag.2.2.1
          have hlen := hag.2.2.2
          rw [hm1] at hm2 hf1 hlen
          rw [hd1] at hdn
          dsimp only at hf1 hlen hdn
          subst hf1
          have HM1 := hid hm1; have HD1 := hid hd1; have HM2 := hid hm2
          have hcl : decide (cnt ≤ (m1.length : Int)) = false := decide_eq_false (by omega)
          have hcl2 : ¬ cnt ≤ (m1.length : Int) := by omega
          clear hag hm1 hd1 hm2 hlen hg0 hge hpr hm0 hd0 hpid hcnt hpe
          cases k0 with
          | true =>
            have h := hdn rfl
            injection h with e1 e2
            subst e1 e2
            clear hdn
            go_wp2_with fail
            refine (part_any s _ (HE.out.keep0 R.out.upd) (Nat.le_trans HZ.out R.out.upd.size) HSL.out).mono ?_
            rintro e w1 ⟨rfl, u⟩
            have R1 := hid (R.out.keep u)
            clear u
            rw [HPR.out]
            go_wp2_with fail
            refine (messages_any b O bx w1 R1.out.box).mono ?_
            rintro e w2 ⟨vi, rfl, hri, u⟩
            have R2 := hid (R1.out.keep u); have RI := hid hri
            clear u hri
            go_wp2_with fail
            refine (missing_any b O bx pid w2 R2.out.box HPID.out).mono ?_
            rintro e w3 ⟨vb, rfl, hrb, u⟩
            rw [HM0.out] at hrb ⊢
            have hrb : kInts.rep (Fresh w2 w3) w3 [vb] m0 := hrb
            have R3 := hid (R2.out.keep u); have RB := hid hrb; have U23 := hid u
            clear u hrb
            go_wp2_with fail
            refine (done_any' b O bx pid w3 R3.out.box HPID.out).mono ?_
            rintro e w4 ⟨rfl, u⟩
            have R4 := hid (R3.out.keep u); have U34 := hid u
            clear u
            rw [HD0.out]
            have c4 := HC.out w4 R4.out.upd
            go_wp2_with fail
            refine (take_any b O bx s w4 (HE.out.keep0 R4.out.upd) R4.out.box HSL.out).mono ?_
            rintro e w5 ⟨rfl, O5, hb5, ho5, u5⟩
            have R5 := hid (R4.out.turn hb5 ho5 u5)
            have U35 := hid (U34.out.more.comp u5 fun _ _ h => h)
            rw [HG0.out]
            clear hb5 ho5 u5 c4
            go_wp2_with fail
            refine (missing_any b O5 _ pid w5 R5.out.box HPID.out).mono ?_
            rintro e w6 ⟨va, rfl, hra, u⟩
            have R6 := hid (R5.out.keep u); have U36 := hid (U35.out.comp (u.more (S := O)) fun _ _ h => h)
            rw [HM1.out] at hra ⊢
            have hra : kInts.rep (Fresh w5 w6) w6 [va] m1 := hra
            obtain ⟨ya, yc, rfl, hy1, hy2, _⟩ := slice_open hra
            have RA := hid hra; have U56 := hid u
            clear u hra hy1 hy2
            go_wp2_with fail
            refine (done_any' b O5 _ pid w6 R6.out.box HPID.out).mono ?_
            rintro e w7 ⟨rfl, u⟩
            have R7 := hid (R6.out.keep u); have U37 := hid (U36.out.comp (u.more (S := O)) fun _ _ h => h); have U67 := hid u
            rw [HD1.out]
            clear u

            have c7 := HC.out w7 R7.out.upd
            go_wp2_with fail
            refine (take_any b O5 _ s w7 (HE.out.keep0 R7.out.upd) R7.out.box HSL.out).mono ?_
            rintro e w8 ⟨rfl, O8, hb8, ho8, u8⟩
            have R8 := hid (R7.out.turn hb8 ho8 u8)
            rw [HG1.out]
            clear hb8 ho8 u8 c7
            go_wp2_with fail
            refine (missingN_any b O8 _ pid w8 R8.out.box HPID.out).mono ?_
            rintro e w9 ⟨rfl, u⟩
            have R9 := hid (R8.out.keep u)
            clear u
            rw [HM2.out]
            go_wp2_with fail
            go_roundg (l.length - (i + 1))
            case measure => have := HGG.out; omega
            case rel => exact ⟨i + 1, _, _, by omega, rfl, by go_num, R9.out⟩
          | false =>
            clear hdn
            go_wp2_with fail
            refine (part_any s _ (HE.out.keep0 R.out.upd) (Nat.le_trans HZ.out R.out.upd.size) HSL.out).mono ?_
            rintro e w1 ⟨rfl, u⟩
            have R1 := hid (R.out.keep u)
            clear u
            rw [HPR.out]
            go_wp2_with fail
            refine (messages_any b O bx w1 R1.out.box).mono ?_
            rintro e w2 ⟨vi, rfl, hri, u⟩
            have R2 := hid (R1.out.keep u); have RI := hid hri
            clear u hri
            go_wp2_with fail
            refine (missing_any b O bx pid w2 R2.out.box HPID.out).mono ?_
            rintro e w3 ⟨vb, rfl, hrb, u⟩
            rw [HM0.out] at hrb ⊢
            have hrb : kInts.rep (Fresh w2 w3) w3 [vb] m0 := hrb
            have R3 := hid (R2.out.keep u); have RB := hid hrb; have U23 := hid u
            clear u hrb
            go_wp2_with fail
            refine (done_any' b O bx pid w3 R3.out.box HPID.out).mono ?_
            rintro e w4 ⟨rfl, u⟩
            have R4 := hid (R3.out.keep u); have U34 := hid u
            clear u
            rw [HD0.out]
            have c4 := HC.out w4 R4.out.upd
            go_wp2_with fail
            refine (take_any b O bx s w4 (HE.out.keep0 R4.out.upd) R4.out.box HSL.out).mono ?_
            rintro e w5 ⟨rfl, O5, hb5, ho5, u5⟩
            have R5 := hid (R4.out.turn hb5 ho5 u5)
            have U35 := hid (U34.out.more.comp u5 fun _ _ h => h)
            rw [HG0.out]
            clear hb5 ho5 u5 c4
            go_wp2_with fail
            refine (missing_any b O5 _ pid w5 R5.out.box HPID.out).mono ?_
            rintro e w6 ⟨va, rfl, hra, u⟩
            have R6 := hid (R5.out.keep u); have U36 := hid (U35.out.comp (u.more (S := O)) fun _ _ h => h)
            rw [HM1.out] at hra ⊢
            have hra : kInts.rep (Fresh w5 w6) w6 [va] m1 := hra
            obtain ⟨ya, yc, rfl, hy1, hy2, _⟩ := slice_open hra
            have RA := hid hra; have U56 := hid u
            clear u hra hy1 hy2
            go_wp2_with fail
            refine (done_any' b O5 _ pid w6 R6.out.box HPID.out).mono ?_
            rintro e w7 ⟨rfl, u⟩
            have R7 := hid (R6.out.keep u); have U37 := hid (U36.out.comp (u.more (S := O)) fun _ _ h => h); have U67 := hid u
            rw [HD1.out]
            clear u

            have c7 := HC.out w7 R7.out.upd
            go_wp2_with fail
            refine (take_any b O5 _ s w7 (HE.out.keep0 R7.out.upd) R7.out.box HSL.out).mono ?_
            rintro e w8 ⟨rfl, O8, hb8, ho8, u8⟩
            have R8 := hid (R7.out.turn hb8 ho8 u8)
            rw [HG1.out]
            clear hb8 ho8 u8 c7
            go_wp2_with fail
            refine (missingN_any b O8 _ pid w8 R8.out.box HPID.out).mono ?_
            rintro e w9 ⟨rfl, u⟩
            have R9 := hid (R8.out.keep u)
            clear u
            rw [HM2.out]
            go_wp2_with fail
            go_roundg (l.length - (i + 1))
            case measure => have := HGG.out; omega
            case rel => exact ⟨i + 1, _, _, by omega, rfl, by go_num, R9.out⟩
        · have hsame := takeF_same hg0
          obtain ⟨g, hgg⟩ : ∃ x, (takeF bx s).1 = x := ⟨_, rfl⟩
          rw [hgg] at hg0 hge
          have HG0 := hid hgg
          have HSAME := hid hsame
          have HM1 := hid hm0
          have HD1 := hid hd0
          have g1 : (g == 0) = false := beq_eq_false_iff_ne.2 hg0
          have g3 : decide (g = 0) = false := decide_eq_false hg0
          clear hdn hpr hm0 hd0 hpid hcnt hpe hsame hgg hcb
          rcases hpe2 with rfl | rfl
          · have hg2 : ¬ g = 2 := fun h => by have := hge.1 h; omega
            have g4 : (g == 2) = false := beq_eq_false_iff_ne.2 hg2
            have g5 : decide (g = 2) = false := decide_eq_false hg2
            clear hge
            cases k0 with
            | true =>
              go_wp2_with fail
              refine (part_any s _ (HE.out.keep0 R.out.upd) (Nat.le_trans HZ.out R.out.upd.size) HSL.out).mono ?_
              rintro e w1 ⟨rfl, u⟩
              have R1 := hid (R.out.keep u)
              clear u
              rw [HPR.out]
              go_wp2_with fail
              refine (messages_any b O bx w1 R1.out.box).mono ?_
              rintro e w2 ⟨vi, rfl, hri, u⟩
              have R2 := hid (R1.out.keep u); have RI := hid hri
              clear u hri
              go_wp2_with fail
              refine (missing_any b O bx pid w2 R2.out.box HPID.out).mono ?_
              rintro e w3 ⟨vb, rfl, hrb, u⟩
              rw [HM0.out] at hrb ⊢
              have hrb : kInts.rep (Fresh w2 w3) w3 [vb] m0 := hrb
              have R3 := hid (R2.out.keep u); have RB := hid hrb; have U23 := hid u
              clear u hrb
              go_wp2_with fail
              refine (done_any' b O bx pid w3 R3.out.box HPID.out).mono ?_
              rintro e w4 ⟨rfl, u⟩
              have R4 := hid (R3.out.keep u); have U34 := hid u
              clear u
              rw [HD0.out]
              have c4 := HC.out w4 R4.out.upd
              go_wp2_with fail
              refine (take_any b O bx s w4 (HE.out.keep0 R4.out.upd) R4.out.box HSL.out).mono ?_
              rintro e w5 ⟨rfl, O5, hb5, ho5, u5⟩
              have R5 := hid (R4.out.turn hb5 ho5 u5)
              have R5b := R5.out
              rw [HSAME.out] at R5b
              have R5 := hid R5b
              clear R5b
              have U35 := hid (U34.out.more.comp u5 fun _ _ h => h)
              rw [HG0.out]
              clear hb5 ho5 u5 c4
              go_wp2_with fail
              refine (missing_any b O5 _ pid w5 R5.out.box HPID.out).mono ?_
              rintro e w6 ⟨va, rfl, hra, u⟩
              have R6 := hid (R5.out.keep u); have U36 := hid (U35.out.comp (u.more (S := O)) fun _ _ h => h)
              rw [HM1.out] at hra ⊢
              have hra : kInts.rep (Fresh w5 w6) w6 [va] m0 := hra
              obtain ⟨ya, yc, rfl, hy1, hy2, _⟩ := slice_open hra
              have RA := hid hra; have U56 := hid u
              clear u hra hy1 hy2
              go_wp2_with fail
              refine (done_any' b O5 _ pid w6 R6.out.box HPID.out).mono ?_
              rintro e w7 ⟨rfl, u⟩
              have R7 := hid (R6.out.keep u); have U37 := hid (U36.out.comp (u.more (S := O)) fun _ _ h => h); have U67 := hid u
              rw [HD1.out]
              clear u

              go_wp2_with fail
              refine (sameNums_any _ _ m0 m0 w7 (ints_stay RB.out U37.out fun k hk => (R2.out.box.lt k hk).2) (ints_stay RA.out (U67.out.more (S := fun _ => False)) fun _ h => h.elim)).mono ?_
              rintro e w8 ⟨rfl, u⟩
              have R8 := hid (R7.out.keep u); have U38 := hid (U37.out.comp (u.more (S := O)) fun _ _ h => h)
              clear u
              rw [beq_self_eq_true]
              go_wp2_with fail
              refine (messages_any b O5 bx w8 R8.out.box).mono ?_
              rintro e w9 ⟨vj, rfl, hrj, u⟩
              have R9 := hid (R8.out.keep u); have U39 := hid (U38.out.comp (u.more (S := O)) fun _ _ h => h); have RJ := hid hrj
              clear u hrj
              go_wp2_with fail
              refine (sameNums_any _ _ (idsF bx) (idsF bx) w9 (ints_stay RI.out ((U23.out.more (S := O)).comp U39.out fun _ _ h => h) fun k hk => (R1.out.box.lt k hk).2) (kInts.mono RJ.out fun g hg => hg.2)).mono ?_
              rintro e w10 ⟨rfl, u⟩
              have R10 := hid (R9.out.keep u)
              clear u
              rw [beq_self_eq_true]
              go_wp2_with fail
              go_roundg (l.length - (i + 1))
              case measure => have := HGG.out; omega
              case rel => exact ⟨i + 1, _, _, by omega, rfl, by go_num, R10.out⟩
            | false =>
              go_wp2_with fail
              refine (part_any s _ (HE.out.keep0 R.out.upd) (Nat.le_trans HZ.out R.out.upd.size) HSL.out).mono ?_
              rintro e w1 ⟨rfl, u⟩
              have R1 := hid (R.out.keep u)
              clear u
              rw [HPR.out]
              go_wp2_with fail
              refine (messages_any b O bx w1 R1.out.box).mono ?_
              rintro e w2 ⟨vi, rfl, hri, u⟩
              have R2 := hid (R1.out.keep u); have RI := hid hri
              clear u hri
              go_wp2_with fail
              refine (missing_any b O bx pid w2 R2.out.box HPID.out).mono ?_
              rintro e w3 ⟨vb, rfl, hrb, u⟩
              rw [HM0.out] at hrb ⊢
              have hrb : kInts.rep (Fresh w2 w3) w3 [vb] m0 := hrb
              have R3 := hid (R2.out.keep u); have RB := hid hrb; have U23 := hid u
              clear u hrb
              go_wp2_with fail
              refine (done_any' b O bx pid w3 R3.out.box HPID.out).mono ?_
              rintro e w4 ⟨rfl, u⟩
              have R4 := hid (R3.out.keep u); have U34 := hid u
              clear u
              rw [HD0.out]
              have c4 := HC.out w4 R4.out.upd
              go_wp2_with fail
              refine (take_any b O bx s w4 (HE.out.keep0 R4.out.upd) R4.out.box HSL.out).mono ?_
              rintro e w5 ⟨rfl, O5, hb5, ho5, u5⟩
              have R5 := hid (R4.out.turn hb5 ho5 u5)
              have R5b := R5.out
              rw [HSAME.out] at R5b
              have R5 := hid R5b
              clear R5b
              have U35 := hid (U34.out.more.comp u5 fun _ _ h => h)
              rw [HG0.out]
              clear hb5 ho5 u5 c4
              go_wp2_with fail
              refine (missing_any b O5 _ pid w5 R5.out.box HPID.out).mono ?_
              rintro e w6 ⟨va, rfl, hra, u⟩
              have R6 := hid (R5.out.keep u); have U36 := hid (U35.out.comp (u.more (S := O)) fun _ _ h => h)
              rw [HM1.out] at hra ⊢
              have hra : kInts.rep (Fresh w5 w6) w6 [va] m0 := hra
              obtain ⟨ya, yc, rfl, hy1, hy2, _⟩ := slice_open hra
              have RA := hid hra; have U56 := hid u
              clear u hra hy1 hy2
              go_wp2_with fail
              refine (done_any' b O5 _ pid w6 R6.out.box HPID.out).mono ?_
              rintro e w7 ⟨rfl, u⟩
              have R7 := hid (R6.out.keep u); have U37 := hid (U36.out.comp (u.more (S := O)) fun _ _ h => h); have U67 := hid u
              rw [HD1.out]
              clear u

              go_wp2_with fail
              refine (sameNums_any _ _ m0 m0 w7 (ints_stay RB.out U37.out fun k hk => (R2.out.box.lt k hk).2) (ints_stay RA.out (U67.out.more (S := fun _ => False)) fun _ h => h.elim)).mono ?_
              rintro e w8 ⟨rfl, u⟩
              have R8 := hid (R7.out.keep u); have U38 := hid (U37.out.comp (u.more (S := O)) fun _ _ h => h)
              clear u
              rw [beq_self_eq_true]
              go_wp2_with fail
              refine (messages_any b O5 bx w8 R8.out.box).mono ?_
              rintro e w9 ⟨vj, rfl, hrj, u⟩
              have R9 := hid (R8.out.keep u); have U39 := hid (U38.out.comp (u.more (S := O)) fun _ _ h => h); have RJ := hid hrj
              clear u hrj
              go_wp2_with fail
              refine (sameNums_any _ _ (idsF bx) (idsF bx) w9 (ints_stay RI.out ((U23.out.more (S := O)).comp U39.out fun _ _ h => h) fun k hk => (R1.out.box.lt k hk).2) (kInts.mono RJ.out fun g hg => hg.2)).mono ?_
              rintro e w10 ⟨rfl, u⟩
              have R10 := hid (R9.out.keep u)
              clear u
              rw [beq_self_eq_true]
              go_wp2_with fail
              go_roundg (l.length - (i + 1))
              case measure => have := HGG.out; omega
              case rel => exact ⟨i + 1, _, _, by omega, rfl, by go_num, R10.out⟩
          · obtain rfl : g = 2 := hge.2 rfl
            clear hge hg0 g1 g3
            cases k0 with
            | true =>
              go_wp2_with fail
              refine (part_any s _ (HE.out.keep0 R.out.upd) (Nat.le_trans HZ.out R.out.upd.size) HSL.out).mono ?_
              rintro e w1 ⟨rfl, u⟩
              have R1 := hid (R.out.keep u)
              clear u
              rw [HPR.out]
              go_wp2_with fail
              refine (messages_any b O bx w1 R1.out.box).mono ?_
              rintro e w2 ⟨vi, rfl, hri, u⟩
              have R2 := hid (R1.out.keep u); have RI := hid hri
              clear u hri
              go_wp2_with fail
              refine (missing_any b O bx pid w2 R2.out.box HPID.out).mono ?_
              rintro e w3 ⟨vb, rfl, hrb, u⟩
              rw [HM0.out] at hrb ⊢
              have hrb : kInts.rep (Fresh w2 w3) w3 [vb] m0 := hrb
              have R3 := hid (R2.out.keep u); have RB := hid hrb; have U23 := hid u
              clear u hrb
              go_wp2_with fail
              refine (done_any' b O bx pid w3 R3.out.box HPID.out).mono ?_
              rintro e w4 ⟨rfl, u⟩
              have R4 := hid (R3.out.keep u); have U34 := hid u
              clear u
              rw [HD0.out]
              have c4 := HC.out w4 R4.out.upd
              go_wp2_with fail
              refine (take_any b O bx s w4 (HE.out.keep0 R4.out.upd) R4.out.box HSL.out).mono ?_
              rintro e w5 ⟨rfl, O5, hb5, ho5, u5⟩
              have R5 := hid (R4.out.turn hb5 ho5 u5)
              have R5b := R5.out
              rw [HSAME.out] at R5b
              have R5 := hid R5b
              clear R5b
              have U35 := hid (U34.out.more.comp u5 fun _ _ h => h)
              rw [HG0.out]
              clear hb5 ho5 u5 c4
              go_wp2_with fail
              refine (missing_any b O5 _ pid w5 R5.out.box HPID.out).mono ?_
              rintro e w6 ⟨va, rfl, hra, u⟩
              have R6 := hid (R5.out.keep u); have U36 := hid (U35.out.comp (u.more (S := O)) fun _ _ h => h)
              rw [HM1.out] at hra ⊢
              have hra : kInts.rep (Fresh w5 w6) w6 [va] m0 := hra
              obtain ⟨ya, yc, rfl, hy1, hy2, _⟩ := slice_open hra
              have RA := hid hra; have U56 := hid u
              clear u hra hy1 hy2
              go_wp2_with fail
              refine (done_any' b O5 _ pid w6 R6.out.box HPID.out).mono ?_
              rintro e w7 ⟨rfl, u⟩
              have R7 := hid (R6.out.keep u); have U37 := hid (U36.out.comp (u.more (S := O)) fun _ _ h => h); have U67 := hid u
              rw [HD1.out]
              clear u

              go_wp2_with fail
              refine (sameNums_any _ _ m0 m0 w7 (ints_stay RB.out U37.out fun k hk => (R2.out.box.lt k hk).2) (ints_stay RA.out (U67.out.more (S := fun _ => False)) fun _ h => h.elim)).mono ?_
              rintro e w8 ⟨rfl, u⟩
              have R8 := hid (R7.out.keep u); have U38 := hid (U37.out.comp (u.more (S := O)) fun _ _ h => h)
              clear u
              rw [beq_self_eq_true]
              go_wp2_with fail
              refine (messages_any b O5 bx w8 R8.out.box).mono ?_
              rintro e w9 ⟨vj, rfl, hrj, u⟩
              have R9 := hid (R8.out.keep u); have U39 := hid (U38.out.comp (u.more (S := O)) fun _ _ h => h); have RJ := hid hrj
              clear u hrj
              go_wp2_with fail
              refine (sameNums_any _ _ (idsF bx) (idsF bx) w9 (ints_stay RI.out ((U23.out.more (S := O)).comp U39.out fun _ _ h => h) fun k hk => (R1.out.box.lt k hk).2) (kInts.mono RJ.out fun g hg => hg.2)).mono ?_
              rintro e w10 ⟨rfl, u⟩
              have R10 := hid (R9.out.keep u)
              clear u
              rw [beq_self_eq_true]
              go_wp2_with fail
              go_roundg (l.length - (i + 1))
              case measure => have := HGG.out; omega
              case rel => exact ⟨i + 1, _, _, by omega, rfl, by go_num, R10.out⟩
            | false =>
              go_wp2_with fail
              refine (part_any s _ (HE.out.keep0 R.out.upd) (Nat.le_trans HZ.out R.out.upd.size) HSL.out).mono ?_
              rintro e w1 ⟨rfl, u⟩
              have R1 := hid (R.out.keep u)
              clear u
              rw [HPR.out]
              go_wp2_with fail
              refine (messages_any b O bx w1 R1.out.box).mono ?_
              rintro e w2 ⟨vi, rfl, hri, u⟩
              have R2 := hid (R1.out.keep u); have RI := hid hri
              clear u hri
              go_wp2_with fail
              refine (missing_any b O bx pid w2 R2.out.box HPID.out).mono ?_
              rintro e w3 ⟨vb, rfl, hrb, u⟩
              rw [HM0.out] at hrb ⊢
              have hrb : kInts.rep (Fresh w2 w3) w3 [vb] m0 := hrb
              have R3 := hid (R2.out.keep u); have RB := hid hrb; have U23 := hid u
              clear u hrb
              go_wp2_with fail
              refine (done_any' b O bx pid w3 R3.out.box HPID.out).mono ?_
              rintro e w4 ⟨rfl, u⟩
              have R4 := hid (R3.out.keep u); have U34 := hid u
              clear u
              rw [HD0.out]
              have c4 := HC.out w4 R4.out.upd
              go_wp2_with fail
              refine (take_any b O bx s w4 (HE.out.keep0 R4.out.upd) R4.out.box HSL.out).mono ?_
              rintro e w5 ⟨rfl, O5, hb5, ho5, u5⟩
              have R5 := hid (R4.out.turn hb5 ho5 u5)
              have R5b := R5.out
              rw [HSAME.out] at R5b
              have R5 := hid R5b
              clear R5b
              have U35 := hid (U34.out.more.comp u5 fun _ _ h => h)
              rw [HG0.out]
              clear hb5 ho5 u5 c4
              go_wp2_with fail
              refine (missing_any b O5 _ pid w5 R5.out.box HPID.out).mono ?_
              rintro e w6 ⟨va, rfl, hra, u⟩
              have R6 := hid (R5.out.keep u); have U36 := hid (U35.out.comp (u.more (S := O)) fun _ _ h => h)
              rw [HM1.out] at hra ⊢
              have hra : kInts.rep (Fresh w5 w6) w6 [va] m0 := hra
              obtain ⟨ya, yc, rfl, hy1, hy2, _⟩ := slice_open hra
              have RA := hid hra; have U56 := hid u
              clear u hra hy1 hy2
              go_wp2_with fail
              refine (done_any' b O5 _ pid w6 R6.out.box HPID.out).mono ?_
              rintro e w7 ⟨rfl, u⟩
              have R7 := hid (R6.out.keep u); have U37 := hid (U36.out.comp (u.more (S := O)) fun _ _ h => h); have U67 := hid u
              rw [HD1.out]
              clear u

              go_wp2_with fail
              refine (sameNums_any _ _ m0 m0 w7 (ints_stay RB.out U37.out fun k hk => (R2.out.box.lt k hk).2) (ints_stay RA.out (U67.out.more (S := fun _ => False)) fun _ h => h.elim)).mono ?_
              rintro e w8 ⟨rfl, u⟩
              have R8 := hid (R7.out.keep u); have U38 := hid (U37.out.comp (u.more (S := O)) fun _ _ h => h)
              clear u
              rw [beq_self_eq_true]
              go_wp2_with fail
              refine (messages_any b O5 bx w8 R8.out.box).mono ?_
              rintro e w9 ⟨vj, rfl, hrj, u⟩
              have R9 := hid (R8.out.keep u); have U39 := hid (U38.out.comp (u.more (S := O)) fun _ _ h => h); have RJ := hid hrj
              clear u hrj
              go_wp2_with fail
              refine (sameNums_any _ _ (idsF bx) (idsF bx) w9 (ints_stay RI.out ((U23.out.more (S := O)).comp U39.out fun _ _ h => h) fun k hk => (R1.out.box.lt k hk).2) (kInts.mono RJ.out fun g hg => hg.2)).mono ?_
              rintro e w10 ⟨rfl, u⟩
              have R10 := hid (R9.out.keep u)
              clear u
              rw [beq_self_eq_true]
              go_wp2_with fail
              go_roundg (l.length - (i + 1))
              case measure => have := HGG.out; omega
              case rel => exact ⟨i + 1, _, _, by omega, rfl, by go_num, R10.out⟩
      · obtain rfl : i = l.length := by omega
        obtain ⟨wq, rfl⟩ : ∃ x : World, x = wr := ⟨_, rfl⟩
        go_wp2_with fail
        refine (messages_any b O bx wq R.out.box).mono ?_
        rintro e wI ⟨vi, rfl, hri, u⟩
        have RI0 := hid (R.out.keep u)
        obtain ⟨ya, yc, rfl, hy1, hy2, _⟩ := slice_open hri
        have RI := hid hri
        have LO := hid (show ∀ k, O k → k < wq.heap.size from fun k hk => (R.out.box.lt k hk).2)
        have hnb : (idsF bx).length ≤ 100 := by rw [idsF_len]; exact R.out.box.ok.few
        have HND := hid (idsF_nodup R.out.box.ok)
        have HWF := hid (idsF_wf R.out.box.ok)
        have FG := hid (Forg.start R.out.box.ok)
        have HIL := hid (idsF_len bx)
        clear u hri hy1 hy2
        generalize idsF bx = ids at *
        go_wp2_with fail
        go_loopg [22] ids.length (fun gg s22 wr2 => ∃ (j : Nat) (cz : Bx), j ≤ ids.length ∧ gg = ids.length - j ∧ s22 = .int .i64 j ∧ Forg ids bx.length j cz ∧ RefSt w b cz O wr2 ∧ Upd O wI wr2)
        case atStart => exact ⟨0, bx, Nat.zero_le _, rfl, rfl, FG.out, RI0.out, Upd.refl _ _⟩
        case round =>
          clear FG RI0
          obtain ⟨j, cx, hj, hg, rfl, hfg, hrs, huo⟩ := hrel
          have HGJ := hid hg; have FG := hid hfg; have RS := hid hrs; have UO := hid huo
          clear hg hfg hrs huo
          by_cases hltj : j < ids.length
          · have hltji : (j : Int) < ids.length := by omega
            obtain ⟨qb, qo, ra, hqb, hel⟩ := slice_at RI.out (by omega)
            subst ra
            have HCI := hid (show ∀ W, Upd O wI W → W.cell? ⟨qb, qo + j, none⟩ = some (.int .i64 ids[j]) from fun W hW => cell_kept (int_cells hel hltj) (hW.block qb hqb.2 fun hO => by have := LO.out qb hO; have := hqb.1; omega))
            have hstep := FG.out.step HND.out hltj
            have hx := HWF.out _ (List.getElem_mem hltj)
            clear hel
            generalize ids[j] = x at *
            have hmx := maxMark_eq
            have HX := hid (show (Lit.int .i64 x).wf = true from iwf (by omega))
            have HST := hid hstep.1; have HMI := hid hstep.2
            have c0 := HCI.out wr UO.out
            clear hstep hx hmx
            go_wp2_with fail
            refine (forget_any b O cx x wr RS.out.box HX.out).mono ?_
            rintro e w4 ⟨rfl, hb4, u4⟩
            have R4 := hid (RS.out.turn hb4 (fun k hk => .inl hk) u4)
            have U4 := hid (UO.out.comp u4 fun _ _ h => h)
            have c4 := HCI.out w4 U4.out
            clear hb4 u4 c0
            go_wp2_with fail
            refine (missing_any b O _ x w4 R4.out.box HX.out).mono ?_
            rintro e w5 ⟨vm, rfl, hrm, u⟩
            have R5 := hid (R4.out.keep u); have U5 := hid (U4.out.comp (u.more (S := O)) fun _ _ h => h)
            rw [HMI.out] at hrm ⊢
            clear u hrm c4
            go_wp2_with fail
            refine (messages_any b O _ w5 R5.out.box).mono ?_
            rintro e w6 ⟨vk, rfl, hrk, u⟩
            have R6 := hid (R5.out.keep u); have U6 := hid (U5.out.comp (u.more (S := O)) fun _ _ h => h)
            obtain ⟨za, zc, rfl, hz1, hz2, _⟩ := slice_open hrk
            have hmn : (idsF (delM cx x)).length + (j + 1) = ids.length := by rw [idsF_len]; have := HST.out.len; have := HIL.out; omega
            obtain ⟨mn, hmm⟩ : ∃ v, (idsF (delM cx x)).length = v := ⟨_, rfl⟩
            rw [hmm] at hmn ⊢
            have hs1 : (ids.length : Int) - j = ((mn + 1 : Nat) : Int) := by omega
            have hs2 : (ids.length : Int) - j - 1 = (mn : Int) := by omega
            have hs3 : ((mn + 1 : Nat) : Int) - 1 = (mn : Int) := by omega
            have hs4 : (mn : Int) + 1 - 1 = (mn : Int) := by omega
            clear u hrk hz1 hz2 hmm
            go_wp2_with fail
            go_roundg (ids.length - (j + 1))
            case measure => have := HGJ.out; omega
            case rel => exact ⟨j + 1, _, by omega, rfl, by go_num, HST.out, R6.out, U6.out⟩
          · obtain rfl : j = ids.length := by omega
            go_wp2_with fail
            go_ret
            exact ⟨rfl, RS.out.upd⟩
  · have HF := hid t1
    clear t1
    go_enter Tryd.func6, Tryd.ntmps6
    go_wp2_with fail
    refine (small_any w HE.out HZ.out).mono ?_
    rintro e w1 ⟨rfl, u⟩
    have U1 := hid u; clear u
    go_wp2_with fail
    refine (fewS_any _ l 60 w1 (kStrs.mono (kStrs.keep H0.out (Same.of_upd U1.out fun _ _ => id)) fun g hg => Nat.lt_of_lt_of_le hg U1.out.size) (by decide)).mono ?_
    rintro e w2 ⟨b, rfl, hb, u⟩
    have U2 := hid (U1.out.trans u)
    obtain rfl : b = false := by
      cases b
      · rfl
      · exact absurd (hb.1 rfl) HF.out
    clear u hb
    go_wp2_with fail
    go_ret
    exact ⟨rfl, U2.out⟩
end Go.Proofs.YtabnniabofhihaaDoor
