/- The walks of same and of FlashTells. -/
import Derived.Test.YtajmhiacmjgffaaRfNew
namespace Go.Proofs.Ytajmhiacmjgffaa
open Go.RowKit

theorem RefAt.noStr {w : World} {p q : Nat} {g : Nat → Nat} {F : Fl} (h : RefAt w p q g F) : ∀ k, Foot p q g F.nb k → NoStr w k := by
  rintro k (rfl | rfl | ⟨i, hi, rfl⟩) s e
  · obtain ⟨cap, h1⟩ := h.head
    rw [h1] at e; injection e with e; injection e with _ e _; exact absurd e (by decide)
  · obtain ⟨cs, h1, _⟩ := h.rows
    rw [h1] at e; injection e with e; injection e with _ e _; exact absurd e (by decide)
  · obtain ⟨ps, h1, _⟩ := h.pages i hi
    rw [h1] at e; injection e with e; injection e with _ e _; exact absurd e (by decide)

theorem down_q (p q : Nat) (w : World) (F : Fl) (h : FlashAt w p q F) :
    Calls Try.prog 10 #[.pointer (some ⟨p, 0, none⟩)] w fun e w' => e = .returned (.bool F.down) ∧ w' = w :=
  (down_any p q w F h).mono fun _ _ ⟨he, hw⟩ => ⟨he, hw.symm⟩

def SamePost (w : World) (e : Ending) (w' : World) : Prop := e = .returned (.bool true) ∧ Upd (fun _ => False) w w'

set_option maxRecDepth 100000 in
set_option maxHeartbeats 4000000 in
theorem same_any (p q pr qr : Nat) (g : Nat → Nat) (w : World) (F : Fl) (hf : FlashAt w p q F) (hr : RefAt w pr qr g F) :
    Calls Try.prog 21 #[.pointer (some ⟨p, 0, none⟩), .pointer (some ⟨pr, 0, none⟩)] w (SamePost w) := by
  have hnb := hf.ok.nb
  have hnp := hf.ok.np
  have hnbI : (F.nb : Int) ≤ 32 := by omega
  have hnpI : (F.np : Int) ≤ 16 := by omega
  have FF := hid fun W (u : Upd (fun _ => False) w W) => hf.upd u id id (fun _ h => h.elim)
  have RR := hid fun W (u : Upd (fun _ => False) w W) => hr.upd u (fun _ _ h => h)
  have HF := hid hf; have HR := hid hr
  clear hf hr
  go_enter Try.func21, Try.ntmps21
  go_wp2_with fail
  refine (size_any p q _ F HF.out).mono ?_
  rintro e w1 ⟨rfl, u1⟩
  have U1 := hid u1; clear u1
  obtain ⟨cap, ⟨c0, c1, c2, c3, c4, c5⟩, hz⟩ := (RR.out w1 U1.out).cells
  have hfd := fun n => FF.out (w1.drewN n) (U1.out.drewN n)
  have HFD := hid hfd; clear hfd
  go_wp2_with fail
  go_quiet ((go_at_call 10; exact Calls.quiet_of_same (down_q p q _ F (HFD.out _))))
  have U2 := hid (U1.out.drewN nq)
  clear c0 c1 c2 c3 c4 c5 hz HFD
  generalize w1.drewN nq = w2 at *
  clear U1
  go_wp2_with fail
  go_loopg [7] (F.nb + 2) (fun n i wx => ∃ k : Int, -1 ≤ k ∧ k ≤ F.nb + 1 ∧ n = (F.nb + 1 - k).toNat ∧ i = .int .i64 k ∧ Upd (fun _ => False) w wx)
  case atStart => exact ⟨-1, by omega, by omega, by omega, rfl, U2.out⟩
  case round =>
    obtain ⟨k, hk1, hk2, hn, rfl, ux⟩ := hrel
    have UX := hid ux; have HN := hid hn
    clear ux hn U2
    obtain ⟨cap2, ⟨c0, c1, c2, c3, c4, c5⟩, hz⟩ := (RR.out wr UX.out).cells
    by_cases hlt : k ≤ F.nb
    · go_wp2_with fail
      obtain ⟨V, hV⟩ : ∃ V : Int, (if k < 0 ∨ (F.nb : Int) ≤ k then (0 : Int) else ((F.blk k.toNat).wear : Int)) = V := ⟨_, rfl⟩
      have HV := hid hV; clear hV
      refine (wear_any p q k _ F (FF.out wr UX.out)).mono ?_
      rintro e wz ⟨he, rfl⟩
      rw [HV.out] at he
      subst he
      go_wp2_with fail
      refine (rwear_any pr qr g k _ F (RR.out _ UX.out)).mono ?_
      rintro e wz ⟨he, rfl⟩
      rw [HV.out] at he
      subst he
      go_wp2_with fail
      go_loopg [8] (F.np + 2) (fun n j wx => ∃ m : Int, -1 ≤ m ∧ m ≤ F.np + 1 ∧ n = (F.np + 1 - m).toNat ∧ j = .int .i64 m ∧ Upd (fun _ => False) w wx)
      case atStart => exact ⟨-1, by omega, by omega, by omega, rfl, UX.out⟩
      case round =>
        clear c0 c1 c2 c3 c4 c5 hz
        obtain ⟨m, hm1, hm2, hn2, rfl, uy⟩ := hrel
        have UY := hid uy; have HN2 := hid hn2
        clear uy hn2
        obtain ⟨cap2, ⟨c0, c1, c2, c3, c4, c5⟩, hz⟩ := (RR.out wr UY.out).cells
        by_cases hlt2 : m ≤ F.np
        · obtain ⟨s, hs⟩ : ∃ s, (F.read k m).1 = s := ⟨_, rfl⟩
          obtain ⟨er, her⟩ : ∃ er, (F.read k m).2 = er := ⟨_, rfl⟩
          have HS := hid hs; have HE := hid her
          clear hs her
          go_wp2_with fail
          refine (read_any p q k m _ F (FF.out _ UY.out)).mono ?_
          rintro e wz ⟨he, rfl⟩
          rw [HS.out, HE.out] at he
          subst he
          go_wp2_with fail
          refine (rread_any pr qr g k m _ F (RR.out _ UY.out)).mono ?_
          rintro e wz ⟨he, uz⟩
          rw [HS.out, HE.out] at he
          subst he
          have UZ := hid (UY.out.trans uz)
          clear uz c0 c1 c2 c3 c4 c5 hz
          go_wp2_with fail
          go_roundg (F.np + 1 - (m + 1)).toNat
          case measure => have := HN2.out; omega
          case rel => exact ⟨m + 1, by omega, by omega, rfl, rfl, UZ.out⟩
        · go_wp2_with fail
          go_roundg (F.nb + 1 - (k + 1)).toNat
          case measure => have := HN.out; omega
          case rel => exact ⟨k + 1, by omega, by omega, rfl, rfl, UY.out⟩
    · go_wp2_with fail
      go_ret
      exact ⟨rfl, UX.out⟩

set_option maxRecDepth 100000 in
set_option maxHeartbeats 4000000 in
theorem tells_walk (x0 x1 : Int) (v : Value) (l : List OpM) (w : World) (hx0 : (Lit.int .i64 x0).wf = true) (hx1 : (Lit.int .i64 x1).wf = true) (hl : (kSlice kOp).rep (· < w.heap.size) w [v] l) :
    Calls Try.prog 4 #[.int .i64 x0, .int .i64 x1, v] w fun e w' => e = .returned (.bool true) ∧ Below w.heap.size w w' := by
  have h0 := bounds_i64 hx0
  have h1 := bounds_i64 hx1
  have HL := hid hl
  obtain ⟨a, cap, rfl, hl1, hl2, hl3⟩ := slice_open hl
  have hl2 : cap ≤ 9223372036854775807 := hl2
  have HE := hid hl3
  clear hl hl3 hx0 hx1
  go_enter Try.func4, Try.ntmps4
  go_wp2_with fail
  refine (small_any _).mono ?_
  rintro e w1 ⟨rfl, b1⟩
  have B1 := hid b1; clear b1
  go_wp2_with fail
  refine (few_any _ (· < w.heap.size) l 40 _ ((kSlice kOp).keep HL.out (Same.of_below B1.out fun _ h => h)) (by decide)).mono ?_
  rintro e w3 ⟨rfl, rfl⟩
  cases hf : few l 40
  · go_wp2_with fail
    go_ret
    exact ⟨rfl, B1.out⟩
  have hlen : l.length ≤ 40 := by
    unfold few at hf; rw [Bool.and_eq_true] at hf; simpa using hf.1
  by_cases hbad : NewBad x0 x1
  · have HBAD := hid hbad; clear hbad
    go_wp2_with fail
    refine (new_bad x0 x1 _ HBAD.out).mono ?_
    rintro e w4 ⟨rfl, rfl⟩
    go_wp2_with fail
    refine (rnew_bad x0 x1 _ HBAD.out).mono ?_
    rintro e w4 ⟨rfl, rfl⟩
    go_wp2_with fail
    go_ret
    exact ⟨rfl, B1.out⟩
  · have hgood : (1 ≤ x0 ∧ x0 ≤ 32) ∧ 1 ≤ x1 ∧ x1 ≤ 16 := by unfold NewBad at hbad; omega
    obtain ⟨nb, hnb⟩ := Int.eq_ofNat_of_zero_le (by omega : 0 ≤ x0)
    obtain ⟨np, hnp⟩ := Int.eq_ofNat_of_zero_le (by omega : 0 ≤ x1)
    subst hnb hnp
    have hnb : 1 ≤ nb ∧ nb ≤ 32 := by omega
    have hnp : 1 ≤ np ∧ np ≤ 16 := by omega
    clear hbad hgood h0 h1
    go_wp2_with fail
    refine (new_ok nb np _ hnb hnp).mono ?_
    rintro e w4 ⟨p, q, hp, hq, rfl, f4, u4⟩
    have hbw := B1.out.size
    have B4 := hid (B1.out.trans (u4.below B1.out.size (fun _ h => h.elim)))
    have F4 := hid f4
    have lt4 := f4.lt
    clear f4 u4
    go_wp2_with fail
    refine (rnew_ok nb np _ hnb hnp).mono ?_
    rintro e w5 ⟨pr, qr, g, hfoot, rfl, r5, u5⟩
    have hB4 := B4.out.size
    have B5 := hid (B4.out.trans (u5.below B4.out.size (fun _ h => h.elim)))
    have F5 := hid (F4.out.upd u5 id id (fun _ h => h.elim))
    have R5 := hid r5
    have hnp' : ¬ Foot pr qr g nb p := fun h => by have := hfoot _ h; omega
    have hnq' : ¬ Foot pr qr g nb q := fun h => by have := hfoot _ h; omega
    have hpp : ∀ k, k = p ∨ k = q → w.heap.size ≤ k := two_le (by omega) (by omega)
    have hff : ∀ k, Foot pr qr g nb k → w.heap.size ≤ k := fun k hk => by have := hfoot k hk; omega
    have hdis : ∀ k, Foot pr qr g nb k → ¬ (k = p ∨ k = q) := by
      rintro k hk (rfl | rfl)
      · exact hnp' hk
      · exact hnq' hk
    have PP := hid hpp; have FFT := hid hff; have DIS := hid hdis; have NP := hid hnp'; have NQ := hid hnq'
    clear hpp hff hdis hnp' hnq' hfoot r5 u5 B4 F4 B1 lt4 hp hq hbw hB4
    go_wp2_with fail
    go_loopg [12] l.length (fun n i wr => ∃ k F, k ≤ l.length ∧ n = l.length - k ∧ i = .int .i64 k ∧ FlashAt wr p q F ∧ RefAt wr pr qr g F ∧ F.nb = nb ∧ Below w.heap.size w wr)
    case atStart => exact ⟨0, _, Nat.zero_le _, by omega, rfl, F5.out, R5.out, rfl, B5.out⟩
    case round =>
      clear F5 R5 B5
      obtain ⟨k, F, hk, hn, rfl, hF, hR, hN, hB⟩ := hrel
      have HF := hid hF; have HR := hid hR; have HNB := hid hN; have HB := hid hB; have HN := hid hn
      clear hF hR hN hB hn
      by_cases hlt : k < l.length
      · obtain ⟨b0, o0, rfl, hb0, hel⟩ := HE.out (by omega)
        have hcells : ∀ W, Below w.heap.size w W → _ := fun W hW => (op_cells (hel.keep (Same.of_below hW fun _ h => h) hb0) hlt).1
        have hok := (op_cells (hel.keep (Same.of_below HB.out fun _ h => h) hb0) hlt).2
        have CEL := hid hcells; have OK := hid hok
        obtain ⟨e0, e1, e2, e3, e4, e5⟩ := hcells wr HB.out
        clear hcells hok hel
        have hsz := F.act_size l[k]
        have hdo : ∀ W, FlashAt W p q F → Calls Try.prog 11 #[.pointer (some ⟨p, 0, none⟩), .agg #[.int .i64 l[k].kind, .int .i64 l[k].block, .int .i64 l[k].page, .string l[k].s, .int .i64 l[k].n, .int .i64 l[k].keep]] W fun e W' =>
          e = .returned (.int .i64 (F.act l[k]).2) ∧ FlashAt W' p q (F.act l[k]).1 ∧ Upd (fun j => j = p ∨ j = q) W W' := fun W hW => do_any p q l[k] W _ hW OK.out
        have hrdo : ∀ W, RefAt W pr qr g F → Calls Try.prog 20 #[.pointer (some ⟨pr, 0, none⟩), .agg #[.int .i64 l[k].kind, .int .i64 l[k].block, .int .i64 l[k].page, .string l[k].s, .int .i64 l[k].n, .int .i64 l[k].keep]] W fun e W' =>
          e = .returned (.int .i64 (F.act l[k]).2) ∧ RefAt W' pr qr g (F.act l[k]).1 ∧ Upd (Foot pr qr g F.nb) W W' := fun W hW => rdo_any pr qr g l[k] W _ hW OK.out
        clear OK
        generalize F.act l[k] = res at *
        obtain ⟨G, er⟩ := res
        dsimp only at hdo hrdo hsz
        have hGN : G.nb = nb := hsz.1.trans HNB.out
        have HDO := hid hdo; have HRDO := hid hrdo; have HG := hid hGN
        have HFW := hid (HF.out.upd ((Upd.refl (fun _ => False) wr).drew) id id (fun _ h => h.elim))
        have HRW := hid (HR.out.upd ((Upd.refl (fun _ => False) wr).drew) (fun _ _ h => h))
        have hBs := HB.out.size
        clear hdo hrdo hsz hGN
        have hkI : (k : Int) < l.length := by omega
        go_wp2_with fail
        go_region_with (first | (go_at_call 11; refine (HDO.out _ HFW.out).mono ?_; rintro e w15 ⟨rfl, f15, u15⟩; have F15 := hid f15; have U15 := hid u15; have B15 := hid ((HB.out.drew).trans (u15.below hBs PP.out)); obtain ⟨s0, s1, s2, s3, s4, s5⟩ := CEL.out w15 B15.out; clear f15 u15) | (go_at_call 20; refine (HRDO.out _ (HRW.out.upd U15.out (fun j hj => DIS.out j (HNB.out ▸ hj)))).mono ?_; rintro e w16 ⟨rfl, f16, u16⟩; have F16 := hid f16; have U16 := hid u16; clear f16 u16))
        all_goals
          have r15 := HRW.out.upd U15.out (fun j hj => DIS.out j (HNB.out ▸ hj))
          have f16 := F15.out.upd U16.out (fun h => NP.out (HNB.out ▸ h)) (fun h => NQ.out (HNB.out ▸ h)) r15.noStr
          have b16 := B15.out.trans (U16.out.below B15.out.size (fun j hj => FFT.out j (HNB.out ▸ hj)))
          have FX := hid f16; have BX := hid b16
          clear r15 f16 b16
          go_wp2_with fail
          go_roundg (l.length - (k + 1))
          case measure => have := HN.out; omega
          case rel => exact ⟨k + 1, G, by omega, rfl, by go_num, FX.out, F16.out, HG.out, BX.out⟩
      · go_wp2_with fail
        refine (same_any p q pr qr g _ F HF.out HR.out).mono ?_
        rintro e w17 ⟨rfl, u17⟩
        have B17 := hid (HB.out.trans (u17.below HB.out.size fun _ h => h.elim))
        go_wp2_with fail
        go_ret
        exact ⟨rfl, B17.out⟩
end Go.Proofs.Ytajmhiacmjgffaa
