/- Walk: a page is written. -/
import Derived.Test.YtlefilfdomjkeaaGreatDoorStD
namespace Go.Proofs.YtlefilfdomjkeaaGreatDoor
open Go.RowKit Go.Deep
def WritePost (O : Nat → Prop) (x p q : Nat) (vr va : Value) (R : Fl × St × Int) (w : World) (e : Ending) (w' : World) : Prop :=
  e = .returned (.int .i64 R.2.2) ∧ StoreAt w' O x p q R.1 R.2.1 vr va ∧ Sto O w w'
theorem progP_of {F : Fl} {S : St} {s : List UInt8} {b g : Nat} {G : Fl} {e : Int} (hb : S.next / F.np % F.nb = b) (hg : S.next % F.np = g) (h : F.program (b : Int) (g : Int) ⟨s.toArray⟩ = (G, e)) :
    progP F S s = if e = 0 then (G, { S with next := S.next + 1 }, 0) else (G, S, e) := by
  unfold progP
  rw [hb, hg, h]
theorem prog_same {F G : Fl} {b g : Int} {s : ByteArray} {e : Int} (h : F.program b g s = (G, e)) : G.nb = F.nb ∧ G.np = F.np := by
  have := F.program_size b g s
  rw [h] at this
  exact this
theorem erase_same {F G : Fl} {b : Int} {e : Int} (h : F.erase b = (G, e)) : G.nb = F.nb ∧ G.np = F.np := by
  have := F.erase_size b
  rw [h] at this
  exact this
section
variable {w : World} {O : Nat → Prop} {x p q : Nat} {F : Fl} {S : St} {vr va : Value}
set_option maxRecDepth 100000 in
set_option maxHeartbeats 2000000 in
theorem write_any (h : StoreAt w O x p q F S vr va) (hd : F.down = false) (hnx : S.next ≤ 1000000) (s : List UInt8) (hs : s.length ≤ 1000000) :
    Calls Tryz.prog 45 #[.pointer (some ⟨x, 0, none⟩), .string ⟨s.toArray⟩] w (WritePost O x p q vr va (writeP F S s) w) := by
  obtain ⟨⟨c0, c1, c2, c3, c4, c5, c6⟩, hf⟩ := h.cells
  have hnb := h.flash.ok.nb
  have hnp := h.flash.ok.np
  have hsz : (ByteArray.mk s.toArray).size ≤ maxLen := by simp [ByteArray.size]; unfold maxLen; omega
  have hq0 : ¬ ((F.np : Int) = 0) := by omega
  have hq2 : ¬ ((F.nb : Int) = 0) := by omega
  have e1 := tdiv_nat S.next F.np
  have e2 := tmod_nat (S.next / F.np) F.nb
  have e3 := tmod_nat S.next F.np
  have b1 : ((S.next / F.np : Nat) : Int) ≤ 1000000 := by have := Nat.div_le_self S.next F.np; omega
  have b2 : ((S.next / F.np % F.nb : Nat) : Int) ≤ 1000000 := by have := Nat.div_le_self S.next F.np; have := Nat.mod_le (S.next / F.np) F.nb; omega
  have b3 : ((S.next % F.np : Nat) : Int) ≤ 1000000 := by have := Nat.mod_le S.next F.np; omega
  have b4 : (S.next : Int) + F.np ≤ 1000100 := by omega
  have b5 : (S.next : Int) ≤ 1000000 := by omega
  obtain ⟨l1, hl1⟩ : ∃ l1, S.next + F.np = l1 := ⟨_, rfl⟩
  obtain ⟨l2, hl2⟩ : ∃ l2, S.next + F.np - 1 = l2 := ⟨_, rfl⟩
  have f1 : (S.next : Int) + F.np = l1 := by omega
  have f2 : (l1 : Int) - 1 = l2 := by omega
  have b6 : (l1 : Int) ≤ 1000100 := by omega
  have b7 : l2 ≤ 2000000 := by omega
  have n1 : (S.next : Int) + 1 = ((S.next + 1 : Nat) : Int) := by omega
  have hW : writeP F S s = if S.next % F.np = 0 ∧ emptyP F l2 = false then if (F.erase (S.next / F.np % F.nb : Nat)).2 = 0 then progP (F.erase (S.next / F.np % F.nb : Nat)).1 S s else ((F.erase (S.next / F.np % F.nb : Nat)).1, S, (F.erase (S.next / F.np % F.nb : Nat)).2) else progP F S s := by rw [← hl2]; rfl
  have PP := hid (fun (H : Fl) (G : Fl) (e : Int) (hn : H.nb = F.nb) (hk : H.np = F.np) (hx : H.program (S.next / F.np % F.nb : Nat) (S.next % F.np : Nat) ⟨s.toArray⟩ = (G, e)) => progP_of (F := H) (S := S) (s := s) (by rw [hn, hk]) (by rw [hk]) hx)
  have H := hid h; have HD := hid hd; have HS := hid hsz; have N1 := hid n1
  generalize S.next / F.np % F.nb = b at *
  obtain ⟨g, hg⟩ : ∃ g, S.next % F.np = g := ⟨_, rfl⟩
  rw [hg] at e3 b3 hW PP
  generalize S.next / F.np = d at *
  have HW := hid hW; have HG := hid hg
  clear h hd hsz hW hl1 hl2 hnb hnp hnx hs n1 hg
  have EC := hid (fun (wq : World) (v : Bool) (hv : emptyP F l2 = v) (h : StoreAt wq O x p q F S vr va) => (show Calls Tryz.prog 65 #[.pointer (some ⟨x, 0, none⟩), .int .i64 l2] wq fun e w' => e = .returned (.bool v) ∧ Upd (fun _ => False) wq w' from by rw [← hv]; exact empty_any h HD.out l2 b7))
  clear b7
  go_enter Tryz.func45, Tryz.ntmps45
  go_wp2_with fail
  go_quiet (fail)
  generalize hwq : w.drewN nq = wq at *
  have uq : Upd (fun _ => False) w wq := by rw [← hwq]; exact (Upd.refl _ _).drewN _
  have SQ := hid (H.out.upd0 uq); have UQ := hid (Sto.of0 (O := O) uq)
  clear hwq uq c0 c1 c2 c3 c4 c5 c6 hf
  obtain ⟨⟨c0, c1, c2, c3, c4, c5, c6⟩, hf⟩ := SQ.out.cells
  go_upto_region 2 with (fail)
  by_cases hz : g = 0
  · have HZ := hid hz
    subst hz
    cases hE : emptyP F l2 with
    | true =>
      have HN := hid (show writeP F S s = progP F S s from HW.out.trans (if_neg fun h => by rw [hE] at h; exact absurd h.2 (by decide)))
      have E1 := hid (fun q' : UW wq => EC.out q'.w true hE (SQ.out.upd0 q'.u))
      clear hE
      have ec1 := fun p : UW wq => p.cell c1
      have ec2 := fun p : UW wq => p.cell c2
      have ec4 := fun p : UW wq => p.cell c4
      refine region_upd (by kernel_rfl) (by kernel_rfl) ?_
      repeat (go_big_quiet_step ((go_at_call 65; with_reducible exact Calls.upd_of (E1.out _))))
      refine wpQuiet_nil ?_
      intro _ hw1
      refine uw_out hw1 ?_
      rintro w2 u2 rfl
      have S2 := hid (SQ.out.upd0 u2); have U2 := hid (UQ.out.then0 u2)
      clear hw1 u2 c0 c1 c2 c3 c4 c5 c6 hf ec1 ec2 ec4
      obtain ⟨⟨c0, c1, c2, c3, c4, c5, c6⟩, hf⟩ := S2.out.cells
      go_wp2_with fail
      refine (program_any p q b (0 : Nat) ⟨s.toArray⟩ _ F S2.out.flash HS.out).mono ?_
      rintro e w5 ⟨rfl, f5, u5⟩
      obtain ⟨G5, hG5⟩ : ∃ G, (F).program (b : Int) ((0 : Nat) : Int) ⟨s.toArray⟩ = G := ⟨_, rfl⟩
      rw [hG5] at f5 ⊢
      obtain ⟨G5, e5⟩ := G5
      dsimp only at f5 ⊢
      have S5 := hid (S2.out.flashed u5 f5 (prog_same hG5).1 (prog_same hG5).2)
      have U5 := hid (U2.out.then (S2.out.sto u5))
      have R5 := hid ((fun (G : Fl) (e : Int) hx => HN.out.trans (PP.out F G e rfl rfl hx)) _ _ hG5)
      clear f5 u5 hG5
      obtain ⟨⟨c0, c1, c2, c3, c4, c5, c6⟩, hf⟩ := S5.out.cells
      by_cases h5 : e5 = 0
      · have R6 := hid (R5.out.trans (if_pos h5))
        subst h5
        have hs5 := hid (store_next S5.out.head (S.next + 1))
        go_wp2_with fail
        go_ret
        unfold WritePost
        rw [R6.out, N1.out]
        exact ⟨rfl, S5.out.headed ((Upd.refl _ _).at_ _ _) hs5.out rfl rfl, U5.out.then (S5.out.sto_x ((Upd.refl _ _).at_ _ _))⟩
      · have R6 := hid (R5.out.trans (if_neg h5))
        have g5 : (e5 == 0) = false := beq_eq_false_iff_ne.2 h5
        go_wp2_with fail
        go_ret
        unfold WritePost
        rw [R6.out]
        exact ⟨rfl, S5.out, U5.out⟩
    | false =>
      have HN := hid (HW.out.trans (if_pos ⟨rfl, hE⟩))
      have E1 := hid (fun q' : UW wq => EC.out q'.w false hE (SQ.out.upd0 q'.u))
      clear hE
      have ec1 := fun p : UW wq => p.cell c1
      have ec2 := fun p : UW wq => p.cell c2
      have ec4 := fun p : UW wq => p.cell c4
      refine region_upd (by kernel_rfl) (by kernel_rfl) ?_
      repeat (go_big_quiet_step ((go_at_call 65; with_reducible exact Calls.upd_of (E1.out _))))
      refine wpQuiet_nil ?_
      intro _ hw1
      refine uw_out hw1 ?_
      rintro w2 u2 rfl
      have S2 := hid (SQ.out.upd0 u2); have U2 := hid (UQ.out.then0 u2)
      clear hw1 u2 c0 c1 c2 c3 c4 c5 c6 hf ec1 ec2 ec4
      obtain ⟨⟨c0, c1, c2, c3, c4, c5, c6⟩, hf⟩ := S2.out.cells
      go_wp2_with fail
      refine (erase_any p q b _ F S2.out.flash).mono ?_
      rintro e w3 ⟨rfl, f3, u3⟩
      obtain ⟨G3, hG3⟩ : ∃ G, F.erase (b : Int) = G := ⟨_, rfl⟩
      rw [hG3] at f3 ⊢
      obtain ⟨G3, e3'⟩ := G3
      dsimp only at f3 ⊢
      have SZ := hid (erase_same hG3)
      have S3 := hid (S2.out.flashed u3 f3 (erase_same hG3).1 (erase_same hG3).2)
      have U3 := hid (U2.out.then (S2.out.sto u3))
      have HN2 := hid (show writeP F S s = if e3' = 0 then progP G3 S s else (G3, S, e3') from by rw [HN.out, hG3])
      clear f3 u3 hG3 c0 c1 c2 c3 c4 c5 c6 hf
      obtain ⟨⟨c0, c1, c2, c3, c4, c5, c6⟩, hf⟩ := S3.out.cells
      by_cases h3 : e3' = 0
      · have HN3 := hid (HN2.out.trans (if_pos h3))
        subst h3
        go_wp2_with fail
        refine (program_any p q b (0 : Nat) ⟨s.toArray⟩ _ G3 S3.out.flash HS.out).mono ?_
        rintro e w5 ⟨rfl, f5, u5⟩
        obtain ⟨G5, hG5⟩ : ∃ G, (G3).program (b : Int) ((0 : Nat) : Int) ⟨s.toArray⟩ = G := ⟨_, rfl⟩
        rw [hG5] at f5 ⊢
        obtain ⟨G5, e5⟩ := G5
        dsimp only at f5 ⊢
        have S5 := hid (S3.out.flashed u5 f5 (prog_same hG5).1 (prog_same hG5).2)
        have U5 := hid (U3.out.then (S3.out.sto u5))
        have R5 := hid ((fun (G : Fl) (e : Int) hx => HN3.out.trans (PP.out G3 G e SZ.out.1 SZ.out.2 hx)) _ _ hG5)
        clear f5 u5 hG5
        obtain ⟨⟨c0, c1, c2, c3, c4, c5, c6⟩, hf⟩ := S5.out.cells
        by_cases h5 : e5 = 0
        · have R6 := hid (R5.out.trans (if_pos h5))
          subst h5
          have hs5 := hid (store_next S5.out.head (S.next + 1))
          go_wp2_with fail
          go_ret
          unfold WritePost
          rw [R6.out, N1.out]
          exact ⟨rfl, S5.out.headed ((Upd.refl _ _).at_ _ _) hs5.out rfl rfl, U5.out.then (S5.out.sto_x ((Upd.refl _ _).at_ _ _))⟩
        · have R6 := hid (R5.out.trans (if_neg h5))
          have g5 : (e5 == 0) = false := beq_eq_false_iff_ne.2 h5
          go_wp2_with fail
          go_ret
          unfold WritePost
          rw [R6.out]
          exact ⟨rfl, S5.out, U5.out⟩
      · have R6 := hid (HN2.out.trans (if_neg h3))
        have g3 : (e3' == 0) = false := beq_eq_false_iff_ne.2 h3
        have g4 : (e3' != 0) = true := by rw [bne_iff_ne]; exact h3
        go_wp2_with fail
        go_ret
        unfold WritePost
        rw [R6.out]
        exact ⟨rfl, S3.out, U3.out⟩
  · have hzi : ¬ (g : Int) = 0 := by omega
    have HN := hid (show writeP F S s = progP F S s from HW.out.trans (if_neg fun h => hz h.1))
    have g1 : ((g : Int) == 0) = false := beq_eq_false_iff_ne.2 hzi
    go_region
    have SQ2 := hid (SQ.out.upd0 (Upd.refl _ wq).drew); have UQ2 := hid (UQ.out.then0 (Upd.refl _ wq).drew)
    go_wp2_with fail
    refine (program_any p q b (g : Nat) ⟨s.toArray⟩ _ F SQ2.out.flash HS.out).mono ?_
    rintro e w5 ⟨rfl, f5, u5⟩
    obtain ⟨G5, hG5⟩ : ∃ G, (F).program (b : Int) ((g : Nat) : Int) ⟨s.toArray⟩ = G := ⟨_, rfl⟩
    rw [hG5] at f5 ⊢
    obtain ⟨G5, e5⟩ := G5
    dsimp only at f5 ⊢
    have S5 := hid (SQ2.out.flashed u5 f5 (prog_same hG5).1 (prog_same hG5).2)
    have U5 := hid (UQ2.out.then (SQ2.out.sto u5))
    have R5 := hid ((fun (G : Fl) (e : Int) hx => HN.out.trans (PP.out F G e rfl rfl hx)) _ _ hG5)
    clear f5 u5 hG5
    obtain ⟨⟨c0, c1, c2, c3, c4, c5, c6⟩, hf⟩ := S5.out.cells
    by_cases h5 : e5 = 0
    · have R6 := hid (R5.out.trans (if_pos h5))
      subst h5
      have hs5 := hid (store_next S5.out.head (S.next + 1))
      go_wp2_with fail
      go_ret
      unfold WritePost
      rw [R6.out, N1.out]
      exact ⟨rfl, S5.out.headed ((Upd.refl _ _).at_ _ _) hs5.out rfl rfl, U5.out.then (S5.out.sto_x ((Upd.refl _ _).at_ _ _))⟩
    · have R6 := hid (R5.out.trans (if_neg h5))
      have g5 : (e5 == 0) = false := beq_eq_false_iff_ne.2 h5
      go_wp2_with fail
      go_ret
      unfold WritePost
      rw [R6.out]
      exact ⟨rfl, S5.out, U5.out⟩
end
end Go.Proofs.YtlefilfdomjkeaaGreatDoor
