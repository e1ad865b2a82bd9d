/- Walk of the reference's store: a page is written. -/
/- Walk of the reference's store: what the text of a page says. -/
import Derived.Test.YtlefilfdomjkeaaGreatDoorRtE
import Derived.Test.YtlefilfdomjkeaaGreatDoorStE
import Derived.Test.YtlefilfdomjkeaaGreatDoorFr
import Derived.Test.YtlefilfdomjkeaaGreatDoorStG
namespace Go.Proofs.YtlefilfdomjkeaaGreatDoor
open Go.RowKit Go.Deep
def RWritePost (O : Nat → Prop) (x p q : Nat) (g' : Nat → Nat) (vr va : Value) (R : Fl × St × Int) (w : World) (e : Ending) (w' : World) : Prop :=
  e = .returned (.int .i64 R.2.2) ∧ RStAt w' O x p q g' R.1 R.2.1 vr va ∧ Sto O w w'
/-- What the last region of write reads. -/
def RwS (x p pb nx np : Nat) (pg : Pg) (w' : World) : Prop :=
  w'.cell? ⟨x, 0, none⟩ = some (.pointer (some ⟨p, 0, none⟩)) ∧ w'.cell? ⟨x, 4, none⟩ = some (.int .i64 nx) ∧ w'.cell? ⟨x, 2, none⟩ = some (.int .i64 np) ∧ w'.cell? ⟨pb, 0, none⟩ = some (.int .i64 pg.kind) ∧ w'.cell? ⟨pb, 1, none⟩ = some (.int .i64 pg.pos) ∧ w'.cell? ⟨pb, 2, none⟩ = some (.int .i64 pg.number) ∧ w'.cell? ⟨pb, 3, none⟩ = some (.int .i64 pg.diff) ∧ w'.cell? ⟨pb, 4, none⟩ = some (.int .i64 pg.offset) ∧ w'.cell? ⟨pb, 5, none⟩ = some (.int .i64 pg.rest) ∧ w'.cell? ⟨pb, 6, none⟩ = some (.string ⟨pg.bytes.toArray⟩)
theorem RwS.upd {x p pb nx np : Nat} {pg : Pg} {w' : World} {O : Nat → Prop} {q : Nat} {g' : Nat → Nat} {F : Fl} {S : St} {vr va : Value} {t : TypeId} (h : RStAt w' O x p q g' F S vr va) (h1 : S.next = nx) (h2 : F.np = np) (hb : w'.heap[pb]? = some (.cells (pgC pg) t (0, 0))) : RwS x p pb nx np pg w' := by
  subst h1 h2
  obtain ⟨⟨c0, c1, c2, c3, c4, c5, c6⟩, hf⟩ := h.cells
  exact ⟨c0, c4, c2, pg_cells hb⟩
section
variable {w : World} {O : Nat → Prop} {x p q : Nat} {g' : Nat → Nat} {F : Fl} {S : St} {vr va : Value}
/-- The flash was written. -/
theorem RStAt.flashed {w' : World} {G : Fl} (h : RStAt w O x p q g' F S vr va) (u : Upd (Foot p q g' F.nb) w w') (f : RefAt w' p q g' G) (hn : G.nb = F.nb) (hk : G.np = F.np) : RStAt w' O x p q g' G S vr va := by
  refine ⟨?_, Own1.upd h.recs u fun i hi hf => (h.apart i hf).2.1 hi, Own1.upd h.ats u fun i hi hf => (h.apart i hf).2.2 hi, f, h.ox, by rw [hn]; exact h.of_, h.ovr, h.ova, by rw [hn]; exact h.apart, fun k hk => Nat.lt_of_lt_of_le (h.lt k hk) u.size⟩
  rw [show stC p G S vr va = stC p F S vr va from by unfold stC; rw [hn, hk]]
  exact (u.block x (heap_lt h.head) fun hf => (h.apart x hf).1 rfl).trans h.head
/-- The store's struct was written. -/
theorem RStAt.headed {w' : World} {S' : St} (h : RStAt w O x p q g' F S vr va) (u : Upd (· = x) w w') (hh : w'.heap[x]? = some (.cells (stC p F S' vr va) 53 (0, 0))) (hr : S'.recs = S.recs) (ha : S'.ats = S.ats) : RStAt w' O x p q g' F S' vr va :=
  ⟨hh, by rw [hr]; exact Own1.upd h.recs u (own_ne h.recs h.head (by decide)), by rw [ha]; exact Own1.upd h.ats u (own_ne h.ats h.head (by decide)), h.flash.upd u fun k hk e => (h.apart k hk).1 e, h.ox, h.of_, h.ovr, h.ova, h.apart, fun k hk => Nat.lt_of_lt_of_le (h.lt k hk) u.size⟩
theorem RStAt.uf {w' : World} (h : RStAt w O x p q g' F S vr va) (u : Upd (Foot p q g' F.nb) w w') : Sto O w w' := u.mono fun k hk => ⟨h.of_ k hk, h.flash.noStr k hk⟩
theorem RStAt.ux {w' : World} (h : RStAt w O x p q g' F S vr va) (u : Upd (· = x) w w') : Sto O w w' := u.mono fun k hk => by subst hk; exact ⟨h.ox, h.noStr⟩
set_option maxRecDepth 100000 in
set_option maxHeartbeats 4000000 in
theorem rwrite_any (h : RStAt w O x p q g' F S vr va) (hd : F.down = false) (hnx : S.next ≤ 1000000) (pg : Pg) (hi : PgI pg) (hs : (txtP pg).length ≤ 1000000) :
    Calls Tryz.prog 48 #[.pointer (some ⟨x, 0, none⟩), pgV pg] w (RWritePost O x p q g' vr va (writeP F S (txtP pg)) w) := by
  obtain ⟨W1, hW1⟩ : ∃ W1, w.alloc (.cells (pgC pg) 87 (0, 0)) = W1 := ⟨_, rfl⟩
  obtain ⟨pb, hpb⟩ : ∃ pb, w.heap.size = pb := ⟨_, rfl⟩
  have hb1 : W1.heap[pb]? = some (.cells (pgC pg) 87 (0, 0)) := by rw [← hpb, ← hW1]; exact heap_alloc_new
  have u1 : Upd (fun _ => False) w W1 := by rw [← hW1]; exact (Upd.refl _ _).alloc _
  have PBO := hid (show ¬ O pb from fun e => by have := h.lt pb e; omega)
  have HW1 := hid hW1; have HPB := hid hpb; have HI := hid hi; have HV : pgV pg = .agg (pgC pg) := rfl
  have H := hid (h.upd0 u1)
  have hnb := h.flash.ok.nb
  have hnp := h.flash.ok.np
  obtain ⟨⟨c0, c1, c2, c3, c4, c5, c6⟩, hf⟩ := H.out.cells
  clear h
  have A1 := hid (fun wq => add_lists (hdrP pg) pg.bytes (by have e := hs; unfold txtP at e; rw [List.length_append] at e; omega) wq)
  have HC := hid (fun wq => qheader_any pg hi wq)
  have hsz : (ByteArray.mk (txtP pg).toArray).size ≤ maxLen := by simp [ByteArray.size]; unfold maxLen; omega
  have hq0 : ¬ ((F.np : Int) = 0) := by omega
  have hq0n : ¬ (F.np = 0) := by omega
  have hq2 : ¬ ((F.nb : Int) = 0) := by omega
  have e1 := tdiv_nat S.next F.np
  have e2 := tmod_nat (S.next / F.np) F.nb
  have e3 := tmod_nat S.next F.np
  have b1 : ((S.next / F.np : Nat) : Int) ≤ 1000000 := by have := Nat.div_le_self S.next F.np; omega
  have b2 : ((S.next / F.np % F.nb : Nat) : Int) ≤ 1000000 := by have := Nat.div_le_self S.next F.np; have := Nat.mod_le (S.next / F.np) F.nb; omega
  have b3 : ((S.next % F.np : Nat) : Int) ≤ 1000000 := by have := Nat.mod_le S.next F.np; omega
  have b4 : (S.next : Int) + F.np ≤ 1000100 := by omega
  have b5 : (S.next : Int) ≤ 1000000 := by omega
  obtain ⟨l1, hl1⟩ : ∃ l1, S.next + F.np = l1 := ⟨_, rfl⟩
  obtain ⟨l2, hl2⟩ : ∃ l2, S.next + F.np - 1 = l2 := ⟨_, rfl⟩
  have f1 : (S.next : Int) + F.np = l1 := by omega
  have f2 : (l1 : Int) - 1 = l2 := by omega
  have b6 : (l1 : Int) ≤ 1000100 := by omega
  have b7 : l2 ≤ 2000000 := by omega
  have n1 : (S.next : Int) + 1 = ((S.next + 1 : Nat) : Int) := by omega
  obtain ⟨s, hss⟩ : ∃ s, txtP pg = s := ⟨_, rfl⟩
  have T1 := hid (show hdrP pg ++ pg.bytes = s from hss)
  rw [T1.out] at A1
  rw [hss] at hs hsz ⊢
  have hW : writeP F S s = if S.next % F.np = 0 ∧ emptyP F l2 = false then if (F.erase (S.next / F.np % F.nb : Nat)).2 = 0 then progP (F.erase (S.next / F.np % F.nb : Nat)).1 S s else ((F.erase (S.next / F.np % F.nb : Nat)).1, S, (F.erase (S.next / F.np % F.nb : Nat)).2) else progP F S s := by rw [← hl2]; rfl
  have PP := hid (fun (H : Fl) (G : Fl) (e : Int) (hn : H.nb = F.nb) (hk : H.np = F.np) (hx : H.program (S.next / F.np % F.nb : Nat) (S.next % F.np : Nat) ⟨s.toArray⟩ = (G, e)) => progP_of (F := H) (S := S) (s := s) (by rw [hn, hk]) (by rw [hk]) hx)
  have HD := hid hd; have HS := hid hsz; have N1 := hid n1; have HB1 := hid hb1; have U1 := hid u1
  generalize S.next / F.np % F.nb = b at *
  obtain ⟨g, hg⟩ : ∃ g, S.next % F.np = g := ⟨_, rfl⟩
  rw [hg] at e3 b3 hW PP
  generalize S.next / F.np = d at *
  have HW := hid hW; have HG := hid hg
  clear hd hsz hW hl1 hl2 hnb hnp hnx hs n1 hg hW1 hpb hb1 u1 hi hss
  have EC := hid (fun (wq : World) (v : Bool) (hv : emptyP F l2 = v) (h : RStAt wq O x p q g' F S vr va) => (show Calls Tryz.prog 67 #[.pointer (some ⟨x, 0, none⟩), .int .i64 l2] wq fun e w' => e = .returned (.bool v) ∧ Upd (fun _ => False) wq w' from by rw [← hv]; exact rempty_any h HD.out l2 b7))
  clear b7
  go_enter Tryz.func48, Tryz.ntmps48
  go_upto_region 1 with (fail)
  rw [HV, HW1.out]
  try rw [HPB.out]
  go_quiet (fail)
  generalize hwq : W1.drewN nq = wq at *
  have uq : Upd (fun _ => False) W1 wq := by rw [← hwq]; exact (Upd.refl _ _).drewN _
  have SQ := hid (H.out.upd0 uq); have UQ := hid (Sto.of0 (O := O) (U1.out.trans uq))
  have BQ := hid ((uq.block pb (heap_lt HB1.out) id).trans HB1.out)
  clear hwq uq c0 c1 c2 c3 c4 c5 c6 hf H HB1 U1
  obtain ⟨⟨c0, c1, c2, c3, c4, c5, c6⟩, hf⟩ := SQ.out.cells
  go_upto_region 2 with (fail)
  by_cases hz : g = 0
  · have HZ := hid hz
    subst hz
    cases hE : emptyP F l2 with
    | true =>
      have HN := hid (show writeP F S s = progP F S s from HW.out.trans (if_neg fun h => by rw [hE] at h; exact absurd h.2 (by decide)))
      have E1 := hid (fun q' : UW wq => EC.out q'.w true hE (SQ.out.upd0 q'.u))
      clear hE
      have ec1 := fun p : UW wq => p.cell c1
      have ec2 := fun p : UW wq => p.cell c2
      have ec4 := fun p : UW wq => p.cell c4
      refine region_upd (by kernel_rfl) (by kernel_rfl) ?_
      repeat (go_big_quiet_step ((go_at_call 67; with_reducible exact Calls.upd_of (E1.out _))))
      refine wpQuiet_nil ?_
      intro _ hw1
      refine uw_out hw1 ?_
      intro w2 u2 q2
      obtain rfl := q2.symm
      clear q2
      have S2 := hid (SQ.out.upd0 u2); have U2 := hid (UQ.out.then0 u2); have B2 := hid ((u2.block pb (heap_lt BQ.out) id).trans BQ.out)
      clear hw1 u2 c0 c1 c2 c3 c4 c5 c6 hf ec1 ec2 ec4
      obtain ⟨⟨c0, c1, c2, c3, c4, c5, c6⟩, hf⟩ := S2.out.cells
      go_upto_region 6 with (fail)
      refine wp_region_g (RwS x p pb S.next F.np pg) 19 (by kernel_rfl) ?_
      have SD : Hid (RStAt w2.drew O x p q g' F S vr va) := hid (S2.out.upd0 (Upd.refl _ _).drew); have UD := hid (U2.out.then0 (Upd.refl _ _).drew)
      have BD : Hid (w2.drew.heap[pb]? = some (.cells (pgC pg) 87 (0, 0))) := hid B2.out
      have hS := RwS.upd SD.out rfl rfl BD.out
      clear c0 c1 c2 c3 c4 c5 c6 hf
      refine g_take0 (i := 0) rfl (by kernel_rfl) (by kernel_rfl) (by kernel_rfl) (by decide) (fun _ _ _ h => h) (Or.inl ⟨by kernel_rfl, by (intro w _; go_simp; try with_reducible rfl)⟩) (fun _ => hS) ?_
      (try go_frame)
      refine g_take0 (i := 1) rfl (by kernel_rfl) (by kernel_rfl) (by kernel_rfl) (by decide) (fun _ _ _ h => h) (Or.inl ⟨by kernel_rfl, by (intro w _; go_simp; try with_reducible rfl)⟩) (fun _ => hS) ?_
      (try go_frame)
      refine g_take0 (i := 2) rfl (by kernel_rfl) (by kernel_rfl) (by kernel_rfl) (by decide) (fun _ _ _ h => h) (Or.inl ⟨by kernel_rfl, by (intro w _; go_simp; try with_reducible rfl)⟩) (fun _ => hS) ?_
      (try go_frame)
      refine g_take (i := 3) rfl (by kernel_rfl) (by kernel_rfl) (by kernel_rfl) (by kernel_rfl) (fun _ _ _ h => h) (Or.inl ⟨by kernel_rfl, by (intro w hSw; (try dsimp only at hSw); obtain ⟨z0, z1, z2, z3, z4, z5, z6, z7, z8, z9⟩ := hSw; go_simp; try with_reducible rfl)⟩) hS ?_
      (try go_frame)
      refine g_take0 (i := 4) rfl (by kernel_rfl) (by kernel_rfl) (by kernel_rfl) (by decide) (fun _ _ _ h => h) (Or.inl ⟨by kernel_rfl, by (intro w _; go_simp; try with_reducible rfl)⟩) (fun _ => hS) ?_
      (try go_frame)
      refine g_take0 (i := 5) rfl (by kernel_rfl) (by kernel_rfl) (by kernel_rfl) (by decide) (fun _ _ _ h => h) (Or.inl ⟨by kernel_rfl, by (intro w _; go_simp; try with_reducible rfl)⟩) (fun _ => hS) ?_
      (try go_frame)
      refine g_take0 (i := 6) rfl (by kernel_rfl) (by kernel_rfl) (by kernel_rfl) (by decide) (fun _ _ _ h => h) (Or.inl ⟨by kernel_rfl, by (intro w _; go_simp; try with_reducible rfl)⟩) (fun _ => hS) ?_
      (try go_frame)
      refine g_take0 (i := 7) rfl (by kernel_rfl) (by kernel_rfl) (by kernel_rfl) (by decide) (fun _ _ _ h => h) (Or.inl ⟨by kernel_rfl, by (intro w _; go_simp; try with_reducible rfl)⟩) (fun _ => hS) ?_
      (try go_frame)
      refine g_takeP [19, 13] (i := 8) rfl (by kernel_rfl) (by kernel_rfl) (by kernel_rfl) (by kernel_rfl) (fun _ _ _ h => h) (Or.inl ⟨by kernel_rfl, by (intro w hSw; (try dsimp only at hSw); obtain ⟨z0, z1, z2, z3, z4, z5, z6, z7, z8, z9⟩ := hSw; go_simp; try with_reducible rfl)⟩) hS ?_
      (try go_frame)
      refine g_take0 (i := 9) rfl (by kernel_rfl) (by kernel_rfl) (by kernel_rfl) (by decide) (fun _ _ _ h => h) (Or.inl ⟨by kernel_rfl, by (intro w _; go_simp; try with_reducible rfl)⟩) (fun _ => hS) ?_
      (try go_frame)
      refine g_take0 (i := 10) rfl (by kernel_rfl) (by kernel_rfl) (by kernel_rfl) (by decide) (fun _ _ _ h => h) (Or.inl ⟨by kernel_rfl, by (intro w _; go_simp; try with_reducible rfl)⟩) (fun _ => hS) ?_
      (try go_frame)
      refine g_take0 (i := 11) rfl (by kernel_rfl) (by kernel_rfl) (by kernel_rfl) (by decide) (fun _ _ _ h => h) (Or.inl ⟨by kernel_rfl, by (intro w _; go_simp; try with_reducible rfl)⟩) (fun _ => hS) ?_
      (try go_frame)
      refine g_takeP [19, 13] (i := 12) rfl (by kernel_rfl) (by kernel_rfl) (by kernel_rfl) (by kernel_rfl) (fun _ _ _ h => h) (Or.inl ⟨by kernel_rfl, by (intro w hSw; (try dsimp only at hSw); obtain ⟨z0, z1, z2, z3, z4, z5, z6, z7, z8, z9⟩ := hSw; go_simp; try with_reducible rfl)⟩) hS ?_
      (try go_frame)
      refine g_take0 (i := 13) (v := .int .i64 (0 : Nat)) rfl (by kernel_rfl) (by kernel_rfl) (by kernel_rfl) (by decide) (fun _ _ _ h => h) (Or.inl ⟨by kernel_rfl, by (intro w _; go_simp; try with_reducible rfl)⟩) (fun _ => hS) ?_
      (try go_frame)
      refine g_takeP [19, 18, 15] (i := 14) (v := .agg (pgC pg)) rfl (by kernel_rfl) (by kernel_rfl) (by kernel_rfl) (by kernel_rfl) (fun _ _ _ h => h) (Or.inl ⟨by kernel_rfl, by (intro w hSw; (try dsimp only at hSw); obtain ⟨z0, z1, z2, z3, z4, z5, z6, z7, z8, z9⟩ := hSw; go_simp; try with_reducible rfl)⟩) hS ?_
      (try go_frame)
      refine g_take0 (i := 16) rfl (by kernel_rfl) (by kernel_rfl) (by kernel_rfl) (by decide) (fun _ _ _ h => h) (Or.inl ⟨by kernel_rfl, by (intro w _; go_simp; try with_reducible rfl)⟩) (fun _ => hS) ?_
      (try go_frame)
      refine g_takeP [19, 18] (i := 17) rfl (by kernel_rfl) (by kernel_rfl) (by kernel_rfl) (by kernel_rfl) (fun _ _ _ h => h) (Or.inl ⟨by kernel_rfl, by (intro w hSw; (try dsimp only at hSw); obtain ⟨z0, z1, z2, z3, z4, z5, z6, z7, z8, z9⟩ := hSw; go_simp; try with_reducible rfl)⟩) hS ?_
      (try go_frame)
      refine g_op (i := 15) (by kernel_rfl) rfl ?_
      go_wp2_with fail
      refine (HC.out _).mono ?_
      rintro e w4 ⟨rfl, u4⟩
      have S4 := hid (SD.out.upd0 u4)
      have U4 := hid (UD.out.then0 u4)
      have B4 := hid ((u4.block pb (heap_lt BD.out) id).trans BD.out)
      have hS4 := RwS.upd S4.out rfl rfl B4.out
      clear u4 hS
      have a1 := A1.out
      go_wp2_with fail
      first | (refine ⟨fun _ => hS4, ?_⟩) | (refine ⟨hS4, ?_⟩)
      (try go_frame)
      refine g_take0 (i := 18) (v := .string ⟨s.toArray⟩) rfl (by kernel_rfl) (by kernel_rfl) (by kernel_rfl) (by decide) (fun _ _ _ h => h) (Or.inl ⟨by kernel_rfl, by (intro w _; go_simp; try with_reducible rfl)⟩) (fun _ => hS4) ?_
      (try go_frame)
      refine g_op (i := 19) (by kernel_rfl) rfl ?_
      go_wp2_with fail
      refine (rprogram_any p q g' b (0 : Nat) ⟨s.toArray⟩ _ F S4.out.flash HS.out).mono ?_
      rintro e w5 ⟨rfl, f5, u5⟩
      obtain ⟨G5, hG5⟩ : ∃ G, (F).program (b : Int) ((0 : Nat) : Int) ⟨s.toArray⟩ = G := ⟨_, rfl⟩
      rw [hG5] at f5 ⊢
      obtain ⟨G5, e5⟩ := G5
      dsimp only at f5 ⊢
      have S5 := hid (S4.out.flashed u5 f5 (prog_same hG5).1 (prog_same hG5).2)
      have U5 := hid (U4.out.then (S4.out.uf u5))
      have R5 := hid ((fun (G : Fl) (e : Int) hx => HN.out.trans (PP.out F G e rfl rfl hx)) _ _ hG5)
      clear f5 u5 hG5 hS4
      go_wp2_with fail
      refine ⟨fun h => (Bool.false_ne_true (h.symm.trans (by kernel_rfl))).elim, ?_⟩
      (try go_frame)
      refine g_op (i := 20) (by kernel_rfl) rfl ?_
      go_wp2_with fail
      refine ⟨fun h => (Bool.false_ne_true (h.symm.trans (by kernel_rfl))).elim, ?_⟩
      (try go_frame)
      refine g_done (by kernel_rfl) ?_
      obtain ⟨⟨c0, c1, c2, c3, c4, c5, c6⟩, hf⟩ := S5.out.cells
      by_cases h5 : e5 = 0
      · have R6 := hid (R5.out.trans (if_pos h5))
        subst h5
        have hs5 := hid (store_next S5.out.head (S.next + 1))
        go_wp2_with fail
        go_ret
        unfold RWritePost
        rw [R6.out, N1.out]
        exact ⟨rfl, S5.out.headed ((Upd.refl _ _).at_ _ _) hs5.out rfl rfl, U5.out.then (S5.out.ux ((Upd.refl _ _).at_ _ _))⟩
      · have R6 := hid (R5.out.trans (if_neg h5))
        have g5 : (e5 == 0) = false := beq_eq_false_iff_ne.2 h5
        go_wp2_with fail
        go_ret
        unfold RWritePost
        rw [R6.out]
        exact ⟨rfl, S5.out, U5.out⟩
    | false =>
      have HN := hid (HW.out.trans (if_pos ⟨rfl, hE⟩))
      have E1 := hid (fun q' : UW wq => EC.out q'.w false hE (SQ.out.upd0 q'.u))
      clear hE
      have ec1 := fun p : UW wq => p.cell c1
      have ec2 := fun p : UW wq => p.cell c2
      have ec4 := fun p : UW wq => p.cell c4
      refine region_upd (by kernel_rfl) (by kernel_rfl) ?_
      repeat (go_big_quiet_step ((go_at_call 67; with_reducible exact Calls.upd_of (E1.out _))))
      refine wpQuiet_nil ?_
      intro _ hw1
      refine uw_out hw1 ?_
      intro w2 u2 q2
      obtain rfl := q2.symm
      clear q2
      have S2 := hid (SQ.out.upd0 u2); have U2 := hid (UQ.out.then0 u2); have B2 := hid ((u2.block pb (heap_lt BQ.out) id).trans BQ.out)
      clear hw1 u2 c0 c1 c2 c3 c4 c5 c6 hf ec1 ec2 ec4
      obtain ⟨⟨c0, c1, c2, c3, c4, c5, c6⟩, hf⟩ := S2.out.cells
      go_wp2_with fail
      refine (rerase_any p q g' b _ F S2.out.flash).mono ?_
      rintro e w3 ⟨rfl, f3, u3⟩
      obtain ⟨G3, hG3⟩ : ∃ G, F.erase (b : Int) = G := ⟨_, rfl⟩
      rw [hG3] at f3 ⊢
      obtain ⟨G3, e3'⟩ := G3
      dsimp only at f3 ⊢
      have SZ := hid (erase_same hG3)
      have S3 := hid (S2.out.flashed u3 f3 (erase_same hG3).1 (erase_same hG3).2)
      have U3 := hid (U2.out.then (S2.out.uf u3)); have B3 := hid ((u3.block pb (heap_lt B2.out) fun hf => PBO.out (S2.out.of_ _ hf)).trans B2.out)
      have HN2 := hid (show writeP F S s = if e3' = 0 then progP G3 S s else (G3, S, e3') from by rw [HN.out, hG3])
      clear f3 u3 hG3 c0 c1 c2 c3 c4 c5 c6 hf
      obtain ⟨⟨c0, c1, c2, c3, c4, c5, c6⟩, hf⟩ := S3.out.cells
      by_cases h3 : e3' = 0
      · have HN3 := hid (HN2.out.trans (if_pos h3))
        subst h3
        go_upto_region 6 with (fail)
        refine wp_region_g (RwS x p pb S.next F.np pg) 19 (by kernel_rfl) ?_
        have SD : Hid (RStAt w3.drew O x p q g' G3 S vr va) := hid (S3.out.upd0 (Upd.refl _ _).drew); have UD := hid (U3.out.then0 (Upd.refl _ _).drew)
        have BD : Hid (w3.drew.heap[pb]? = some (.cells (pgC pg) 87 (0, 0))) := hid B3.out
        have hS := RwS.upd SD.out rfl SZ.out.2 BD.out
        clear c0 c1 c2 c3 c4 c5 c6 hf
        refine g_take0 (i := 0) rfl (by kernel_rfl) (by kernel_rfl) (by kernel_rfl) (by decide) (fun _ _ _ h => h) (Or.inl ⟨by kernel_rfl, by (intro w _; go_simp; try with_reducible rfl)⟩) (fun _ => hS) ?_
        (try go_frame)
        refine g_take0 (i := 1) rfl (by kernel_rfl) (by kernel_rfl) (by kernel_rfl) (by decide) (fun _ _ _ h => h) (Or.inl ⟨by kernel_rfl, by (intro w _; go_simp; try with_reducible rfl)⟩) (fun _ => hS) ?_
        (try go_frame)
        refine g_take0 (i := 2) rfl (by kernel_rfl) (by kernel_rfl) (by kernel_rfl) (by decide) (fun _ _ _ h => h) (Or.inl ⟨by kernel_rfl, by (intro w _; go_simp; try with_reducible rfl)⟩) (fun _ => hS) ?_
        (try go_frame)
        refine g_take (i := 3) rfl (by kernel_rfl) (by kernel_rfl) (by kernel_rfl) (by kernel_rfl) (fun _ _ _ h => h) (Or.inl ⟨by kernel_rfl, by (intro w hSw; (try dsimp only at hSw); obtain ⟨z0, z1, z2, z3, z4, z5, z6, z7, z8, z9⟩ := hSw; go_simp; try with_reducible rfl)⟩) hS ?_
        (try go_frame)
        refine g_take0 (i := 4) rfl (by kernel_rfl) (by kernel_rfl) (by kernel_rfl) (by decide) (fun _ _ _ h => h) (Or.inl ⟨by kernel_rfl, by (intro w _; go_simp; try with_reducible rfl)⟩) (fun _ => hS) ?_
        (try go_frame)
        refine g_take0 (i := 5) rfl (by kernel_rfl) (by kernel_rfl) (by kernel_rfl) (by decide) (fun _ _ _ h => h) (Or.inl ⟨by kernel_rfl, by (intro w _; go_simp; try with_reducible rfl)⟩) (fun _ => hS) ?_
        (try go_frame)
        refine g_take0 (i := 6) rfl (by kernel_rfl) (by kernel_rfl) (by kernel_rfl) (by decide) (fun _ _ _ h => h) (Or.inl ⟨by kernel_rfl, by (intro w _; go_simp; try with_reducible rfl)⟩) (fun _ => hS) ?_
        (try go_frame)
        refine g_take0 (i := 7) rfl (by kernel_rfl) (by kernel_rfl) (by kernel_rfl) (by decide) (fun _ _ _ h => h) (Or.inl ⟨by kernel_rfl, by (intro w _; go_simp; try with_reducible rfl)⟩) (fun _ => hS) ?_
        (try go_frame)
        refine g_takeP [19, 13] (i := 8) rfl (by kernel_rfl) (by kernel_rfl) (by kernel_rfl) (by kernel_rfl) (fun _ _ _ h => h) (Or.inl ⟨by kernel_rfl, by (intro w hSw; (try dsimp only at hSw); obtain ⟨z0, z1, z2, z3, z4, z5, z6, z7, z8, z9⟩ := hSw; go_simp; try with_reducible rfl)⟩) hS ?_
        (try go_frame)
        refine g_take0 (i := 9) rfl (by kernel_rfl) (by kernel_rfl) (by kernel_rfl) (by decide) (fun _ _ _ h => h) (Or.inl ⟨by kernel_rfl, by (intro w _; go_simp; try with_reducible rfl)⟩) (fun _ => hS) ?_
        (try go_frame)
        refine g_take0 (i := 10) rfl (by kernel_rfl) (by kernel_rfl) (by kernel_rfl) (by decide) (fun _ _ _ h => h) (Or.inl ⟨by kernel_rfl, by (intro w _; go_simp; try with_reducible rfl)⟩) (fun _ => hS) ?_
        (try go_frame)
        refine g_take0 (i := 11) rfl (by kernel_rfl) (by kernel_rfl) (by kernel_rfl) (by decide) (fun _ _ _ h => h) (Or.inl ⟨by kernel_rfl, by (intro w _; go_simp; try with_reducible rfl)⟩) (fun _ => hS) ?_
        (try go_frame)
        refine g_takeP [19, 13] (i := 12) rfl (by kernel_rfl) (by kernel_rfl) (by kernel_rfl) (by kernel_rfl) (fun _ _ _ h => h) (Or.inl ⟨by kernel_rfl, by (intro w hSw; (try dsimp only at hSw); obtain ⟨z0, z1, z2, z3, z4, z5, z6, z7, z8, z9⟩ := hSw; go_simp; try with_reducible rfl)⟩) hS ?_
        (try go_frame)
        refine g_take0 (i := 13) (v := .int .i64 (0 : Nat)) rfl (by kernel_rfl) (by kernel_rfl) (by kernel_rfl) (by decide) (fun _ _ _ h => h) (Or.inl ⟨by kernel_rfl, by (intro w _; go_simp; try with_reducible rfl)⟩) (fun _ => hS) ?_
        (try go_frame)
        refine g_takeP [19, 18, 15] (i := 14) (v := .agg (pgC pg)) rfl (by kernel_rfl) (by kernel_rfl) (by kernel_rfl) (by kernel_rfl) (fun _ _ _ h => h) (Or.inl ⟨by kernel_rfl, by (intro w hSw; (try dsimp only at hSw); obtain ⟨z0, z1, z2, z3, z4, z5, z6, z7, z8, z9⟩ := hSw; go_simp; try with_reducible rfl)⟩) hS ?_
        (try go_frame)
        refine g_take0 (i := 16) rfl (by kernel_rfl) (by kernel_rfl) (by kernel_rfl) (by decide) (fun _ _ _ h => h) (Or.inl ⟨by kernel_rfl, by (intro w _; go_simp; try with_reducible rfl)⟩) (fun _ => hS) ?_
        (try go_frame)
        refine g_takeP [19, 18] (i := 17) rfl (by kernel_rfl) (by kernel_rfl) (by kernel_rfl) (by kernel_rfl) (fun _ _ _ h => h) (Or.inl ⟨by kernel_rfl, by (intro w hSw; (try dsimp only at hSw); obtain ⟨z0, z1, z2, z3, z4, z5, z6, z7, z8, z9⟩ := hSw; go_simp; try with_reducible rfl)⟩) hS ?_
        (try go_frame)
        refine g_op (i := 15) (by kernel_rfl) rfl ?_
        go_wp2_with fail
        refine (HC.out _).mono ?_
        rintro e w4 ⟨rfl, u4⟩
        have S4 := hid (SD.out.upd0 u4)
        have U4 := hid (UD.out.then0 u4)
        have B4 := hid ((u4.block pb (heap_lt BD.out) id).trans BD.out)
        have hS4 := RwS.upd S4.out rfl SZ.out.2 B4.out
        clear u4 hS
        have a1 := A1.out
        go_wp2_with fail
        first | (refine ⟨fun _ => hS4, ?_⟩) | (refine ⟨hS4, ?_⟩)
        (try go_frame)
        refine g_take0 (i := 18) (v := .string ⟨s.toArray⟩) rfl (by kernel_rfl) (by kernel_rfl) (by kernel_rfl) (by decide) (fun _ _ _ h => h) (Or.inl ⟨by kernel_rfl, by (intro w _; go_simp; try with_reducible rfl)⟩) (fun _ => hS4) ?_
        (try go_frame)
        refine g_op (i := 19) (by kernel_rfl) rfl ?_
        go_wp2_with fail
        refine (rprogram_any p q g' b (0 : Nat) ⟨s.toArray⟩ _ G3 S4.out.flash HS.out).mono ?_
        rintro e w5 ⟨rfl, f5, u5⟩
        obtain ⟨G5, hG5⟩ : ∃ G, (G3).program (b : Int) ((0 : Nat) : Int) ⟨s.toArray⟩ = G := ⟨_, rfl⟩
        rw [hG5] at f5 ⊢
        obtain ⟨G5, e5⟩ := G5
        dsimp only at f5 ⊢
        have S5 := hid (S4.out.flashed u5 f5 (prog_same hG5).1 (prog_same hG5).2)
        have U5 := hid (U4.out.then (S4.out.uf u5))
        have R5 := hid ((fun (G : Fl) (e : Int) hx => HN3.out.trans (PP.out G3 G e SZ.out.1 SZ.out.2 hx)) _ _ hG5)
        clear f5 u5 hG5 hS4
        go_wp2_with fail
        refine ⟨fun h => (Bool.false_ne_true (h.symm.trans (by kernel_rfl))).elim, ?_⟩
        (try go_frame)
        refine g_op (i := 20) (by kernel_rfl) rfl ?_
        go_wp2_with fail
        refine ⟨fun h => (Bool.false_ne_true (h.symm.trans (by kernel_rfl))).elim, ?_⟩
        (try go_frame)
        refine g_done (by kernel_rfl) ?_
        obtain ⟨⟨c0, c1, c2, c3, c4, c5, c6⟩, hf⟩ := S5.out.cells
        by_cases h5 : e5 = 0
        · have R6 := hid (R5.out.trans (if_pos h5))
          subst h5
          have hs5 := hid (store_next S5.out.head (S.next + 1))
          go_wp2_with fail
          go_ret
          unfold RWritePost
          rw [R6.out, N1.out]
          exact ⟨rfl, S5.out.headed ((Upd.refl _ _).at_ _ _) hs5.out rfl rfl, U5.out.then (S5.out.ux ((Upd.refl _ _).at_ _ _))⟩
        · have R6 := hid (R5.out.trans (if_neg h5))
          have g5 : (e5 == 0) = false := beq_eq_false_iff_ne.2 h5
          go_wp2_with fail
          go_ret
          unfold RWritePost
          rw [R6.out]
          exact ⟨rfl, S5.out, U5.out⟩
      · have R6 := hid (HN2.out.trans (if_neg h3))
        have g3 : (e3' == 0) = false := beq_eq_false_iff_ne.2 h3
        have g4 : (e3' != 0) = true := by rw [bne_iff_ne]; exact h3
        go_wp2_with fail
        go_ret
        unfold RWritePost
        rw [R6.out]
        exact ⟨rfl, S3.out, U3.out⟩
  · have hzi : ¬ (g : Int) = 0 := by omega
    have HN := hid (show writeP F S s = progP F S s from HW.out.trans (if_neg fun h => hz h.1))
    have g1 : ((g : Int) == 0) = false := beq_eq_false_iff_ne.2 hzi
    go_region
    obtain ⟨w2, hw2⟩ : ∃ w2, wq.drew = w2 := ⟨_, rfl⟩
    have u2 : Upd (fun _ => False) wq w2 := by rw [← hw2]; exact (Upd.refl _ wq).drew
    rw [hw2]
    have S2 := hid (SQ.out.upd0 u2); have U2 := hid (UQ.out.then0 u2); have B2 := hid ((u2.block pb (heap_lt BQ.out) id).trans BQ.out)
    clear u2 hw2 c0 c1 c2 c3 c4 c5 c6 hf
    obtain ⟨⟨c0, c1, c2, c3, c4, c5, c6⟩, hf⟩ := S2.out.cells
    go_upto_region 6 with (fail)
    refine wp_region_g (RwS x p pb S.next F.np pg) 19 (by kernel_rfl) ?_
    have SD : Hid (RStAt w2.drew O x p q g' F S vr va) := hid (S2.out.upd0 (Upd.refl _ _).drew); have UD := hid (U2.out.then0 (Upd.refl _ _).drew)
    have BD : Hid (w2.drew.heap[pb]? = some (.cells (pgC pg) 87 (0, 0))) := hid B2.out
    have hS := RwS.upd SD.out rfl rfl BD.out
    clear c0 c1 c2 c3 c4 c5 c6 hf
    refine g_take0 (i := 0) rfl (by kernel_rfl) (by kernel_rfl) (by kernel_rfl) (by decide) (fun _ _ _ h => h) (Or.inl ⟨by kernel_rfl, by (intro w _; go_simp; try with_reducible rfl)⟩) (fun _ => hS) ?_
    (try go_frame)
    refine g_take0 (i := 1) rfl (by kernel_rfl) (by kernel_rfl) (by kernel_rfl) (by decide) (fun _ _ _ h => h) (Or.inl ⟨by kernel_rfl, by (intro w _; go_simp; try with_reducible rfl)⟩) (fun _ => hS) ?_
    (try go_frame)
    refine g_take0 (i := 2) rfl (by kernel_rfl) (by kernel_rfl) (by kernel_rfl) (by decide) (fun _ _ _ h => h) (Or.inl ⟨by kernel_rfl, by (intro w _; go_simp; try with_reducible rfl)⟩) (fun _ => hS) ?_
    (try go_frame)
    refine g_take (i := 3) rfl (by kernel_rfl) (by kernel_rfl) (by kernel_rfl) (by kernel_rfl) (fun _ _ _ h => h) (Or.inl ⟨by kernel_rfl, by (intro w hSw; (try dsimp only at hSw); obtain ⟨z0, z1, z2, z3, z4, z5, z6, z7, z8, z9⟩ := hSw; go_simp; try with_reducible rfl)⟩) hS ?_
    (try go_frame)
    refine g_take0 (i := 4) rfl (by kernel_rfl) (by kernel_rfl) (by kernel_rfl) (by decide) (fun _ _ _ h => h) (Or.inl ⟨by kernel_rfl, by (intro w _; go_simp; try with_reducible rfl)⟩) (fun _ => hS) ?_
    (try go_frame)
    refine g_take0 (i := 5) rfl (by kernel_rfl) (by kernel_rfl) (by kernel_rfl) (by decide) (fun _ _ _ h => h) (Or.inl ⟨by kernel_rfl, by (intro w _; go_simp; try with_reducible rfl)⟩) (fun _ => hS) ?_
    (try go_frame)
    refine g_take0 (i := 6) rfl (by kernel_rfl) (by kernel_rfl) (by kernel_rfl) (by decide) (fun _ _ _ h => h) (Or.inl ⟨by kernel_rfl, by (intro w _; go_simp; try with_reducible rfl)⟩) (fun _ => hS) ?_
    (try go_frame)
    refine g_take0 (i := 7) rfl (by kernel_rfl) (by kernel_rfl) (by kernel_rfl) (by decide) (fun _ _ _ h => h) (Or.inl ⟨by kernel_rfl, by (intro w _; go_simp; try with_reducible rfl)⟩) (fun _ => hS) ?_
    (try go_frame)
    refine g_takeP [19, 13] (i := 8) rfl (by kernel_rfl) (by kernel_rfl) (by kernel_rfl) (by kernel_rfl) (fun _ _ _ h => h) (Or.inl ⟨by kernel_rfl, by (intro w hSw; (try dsimp only at hSw); obtain ⟨z0, z1, z2, z3, z4, z5, z6, z7, z8, z9⟩ := hSw; go_simp; try with_reducible rfl)⟩) hS ?_
    (try go_frame)
    refine g_take0 (i := 9) rfl (by kernel_rfl) (by kernel_rfl) (by kernel_rfl) (by decide) (fun _ _ _ h => h) (Or.inl ⟨by kernel_rfl, by (intro w _; go_simp; try with_reducible rfl)⟩) (fun _ => hS) ?_
    (try go_frame)
    refine g_take0 (i := 10) rfl (by kernel_rfl) (by kernel_rfl) (by kernel_rfl) (by decide) (fun _ _ _ h => h) (Or.inl ⟨by kernel_rfl, by (intro w _; go_simp; try with_reducible rfl)⟩) (fun _ => hS) ?_
    (try go_frame)
    refine g_take0 (i := 11) rfl (by kernel_rfl) (by kernel_rfl) (by kernel_rfl) (by decide) (fun _ _ _ h => h) (Or.inl ⟨by kernel_rfl, by (intro w _; go_simp; try with_reducible rfl)⟩) (fun _ => hS) ?_
    (try go_frame)
    refine g_takeP [19, 13] (i := 12) rfl (by kernel_rfl) (by kernel_rfl) (by kernel_rfl) (by kernel_rfl) (fun _ _ _ h => h) (Or.inl ⟨by kernel_rfl, by (intro w hSw; (try dsimp only at hSw); obtain ⟨z0, z1, z2, z3, z4, z5, z6, z7, z8, z9⟩ := hSw; go_simp; try with_reducible rfl)⟩) hS ?_
    (try go_frame)
    refine g_take0 (i := 13) (v := .int .i64 (g : Nat)) rfl (by kernel_rfl) (by kernel_rfl) (by kernel_rfl) (by decide) (fun _ _ _ h => h) (Or.inl ⟨by kernel_rfl, by (intro w _; go_simp; try with_reducible rfl)⟩) (fun _ => hS) ?_
    (try go_frame)
    refine g_takeP [19, 18, 15] (i := 14) (v := .agg (pgC pg)) rfl (by kernel_rfl) (by kernel_rfl) (by kernel_rfl) (by kernel_rfl) (fun _ _ _ h => h) (Or.inl ⟨by kernel_rfl, by (intro w hSw; (try dsimp only at hSw); obtain ⟨z0, z1, z2, z3, z4, z5, z6, z7, z8, z9⟩ := hSw; go_simp; try with_reducible rfl)⟩) hS ?_
    (try go_frame)
    refine g_take0 (i := 16) rfl (by kernel_rfl) (by kernel_rfl) (by kernel_rfl) (by decide) (fun _ _ _ h => h) (Or.inl ⟨by kernel_rfl, by (intro w _; go_simp; try with_reducible rfl)⟩) (fun _ => hS) ?_
    (try go_frame)
    refine g_takeP [19, 18] (i := 17) rfl (by kernel_rfl) (by kernel_rfl) (by kernel_rfl) (by kernel_rfl) (fun _ _ _ h => h) (Or.inl ⟨by kernel_rfl, by (intro w hSw; (try dsimp only at hSw); obtain ⟨z0, z1, z2, z3, z4, z5, z6, z7, z8, z9⟩ := hSw; go_simp; try with_reducible rfl)⟩) hS ?_
    (try go_frame)
    refine g_op (i := 15) (by kernel_rfl) rfl ?_
    go_wp2_with fail
    refine (HC.out _).mono ?_
    rintro e w4 ⟨rfl, u4⟩
    have S4 := hid (SD.out.upd0 u4)
    have U4 := hid (UD.out.then0 u4)
    have B4 := hid ((u4.block pb (heap_lt BD.out) id).trans BD.out)
    have hS4 := RwS.upd S4.out rfl rfl B4.out
    clear u4 hS
    have a1 := A1.out
    go_wp2_with fail
    first | (refine ⟨fun _ => hS4, ?_⟩) | (refine ⟨hS4, ?_⟩)
    (try go_frame)
    refine g_take0 (i := 18) (v := .string ⟨s.toArray⟩) rfl (by kernel_rfl) (by kernel_rfl) (by kernel_rfl) (by decide) (fun _ _ _ h => h) (Or.inl ⟨by kernel_rfl, by (intro w _; go_simp; try with_reducible rfl)⟩) (fun _ => hS4) ?_
    (try go_frame)
    refine g_op (i := 19) (by kernel_rfl) rfl ?_
    go_wp2_with fail
    refine (rprogram_any p q g' b (g : Nat) ⟨s.toArray⟩ _ F S4.out.flash HS.out).mono ?_
    rintro e w5 ⟨rfl, f5, u5⟩
    obtain ⟨G5, hG5⟩ : ∃ G, (F).program (b : Int) ((g : Nat) : Int) ⟨s.toArray⟩ = G := ⟨_, rfl⟩
    rw [hG5] at f5 ⊢
    obtain ⟨G5, e5⟩ := G5
    dsimp only at f5 ⊢
    have S5 := hid (S4.out.flashed u5 f5 (prog_same hG5).1 (prog_same hG5).2)
    have U5 := hid (U4.out.then (S4.out.uf u5))
    have R5 := hid ((fun (G : Fl) (e : Int) hx => HN.out.trans (PP.out F G e rfl rfl hx)) _ _ hG5)
    clear f5 u5 hG5 hS4
    go_wp2_with fail
    refine ⟨fun h => (Bool.false_ne_true (h.symm.trans (by kernel_rfl))).elim, ?_⟩
    (try go_frame)
    refine g_op (i := 20) (by kernel_rfl) rfl ?_
    go_wp2_with fail
    refine ⟨fun h => (Bool.false_ne_true (h.symm.trans (by kernel_rfl))).elim, ?_⟩
    (try go_frame)
    refine g_done (by kernel_rfl) ?_
    obtain ⟨⟨c0, c1, c2, c3, c4, c5, c6⟩, hf⟩ := S5.out.cells
    by_cases h5 : e5 = 0
    · have R6 := hid (R5.out.trans (if_pos h5))
      subst h5
      have hs5 := hid (store_next S5.out.head (S.next + 1))
      go_wp2_with fail
      go_ret
      unfold RWritePost
      rw [R6.out, N1.out]
      exact ⟨rfl, S5.out.headed ((Upd.refl _ _).at_ _ _) hs5.out rfl rfl, U5.out.then (S5.out.ux ((Upd.refl _ _).at_ _ _))⟩
    · have R6 := hid (R5.out.trans (if_neg h5))
      have g5 : (e5 == 0) = false := beq_eq_false_iff_ne.2 h5
      go_wp2_with fail
      go_ret
      unfold RWritePost
      rw [R6.out]
      exact ⟨rfl, S5.out, U5.out⟩
end
end Go.Proofs.YtlefilfdomjkeaaGreatDoor
namespace Go.Proofs.YtlefilfdomjkeaaGreatDoor
open Go.RowKit Go.Deep
theorem pg_set {w : World} {b : Nat} {p : Pg} {t : TypeId} (h : w.heap[b]? = some (.cells (pgC p) t (0, 0))) :
    (∀ n : Nat, (w.setCell ⟨b, 0, none⟩ (.int .i64 n)).heap[b]? = some (.cells (pgC { p with kind := n }) t (0, 0))) ∧ (∀ n : Nat, (w.setCell ⟨b, 1, none⟩ (.int .i64 n)).heap[b]? = some (.cells (pgC { p with pos := n }) t (0, 0))) ∧
    (∀ n : Nat, (w.setCell ⟨b, 2, none⟩ (.int .i64 n)).heap[b]? = some (.cells (pgC { p with number := n }) t (0, 0))) ∧ (∀ n : Nat, (w.setCell ⟨b, 3, none⟩ (.int .i64 n)).heap[b]? = some (.cells (pgC { p with diff := n }) t (0, 0))) ∧
    (∀ n : Nat, (w.setCell ⟨b, 4, none⟩ (.int .i64 n)).heap[b]? = some (.cells (pgC { p with offset := n }) t (0, 0))) ∧ (∀ n : Nat, (w.setCell ⟨b, 5, none⟩ (.int .i64 n)).heap[b]? = some (.cells (pgC { p with rest := n }) t (0, 0))) := by
  refine ⟨?_, ?_, ?_, ?_, ?_, ?_⟩
  · intro n; rw [heap_setCell_same (p := ⟨b, 0, none⟩) rfl h]; rfl
  · intro n; rw [heap_setCell_same (p := ⟨b, 1, none⟩) rfl h]; rfl
  · intro n; rw [heap_setCell_same (p := ⟨b, 2, none⟩) rfl h]; rfl
  · intro n; rw [heap_setCell_same (p := ⟨b, 3, none⟩) rfl h]; rfl
  · intro n; rw [heap_setCell_same (p := ⟨b, 4, none⟩) rfl h]; rfl
  · intro n; rw [heap_setCell_same (p := ⟨b, 5, none⟩) rfl h]; rfl
set_option maxRecDepth 100000 in
set_option maxHeartbeats 8000000 in
theorem rread_page (s : List UInt8) (w : World) (hl : s.length ≤ 10000000) :
    Calls Tryz.prog 66 #[.string ⟨s.toArray⟩] w (RdPost s w) := by
  have HL := hid hl
  clear hl
  go_enter Tryz.func66, Tryz.ntmps66
  go_wp2_with fail
  obtain ⟨W0, hW0⟩ : ∃ W0, W0 = w.alloc (.cells #[.int .i64 0, .int .i64 0, .int .i64 0, .int .i64 0, .int .i64 0, .int .i64 0, .string ⟨#[]⟩] 87 (0, 0)) := ⟨_, rfl⟩
  have u0 : Upd (fun _ => False) w W0 := by rw [hW0]; exact (Upd.refl _ _).alloc _
  have hs0 : W0.heap.size = w.heap.size + 1 := by rw [hW0]; simp
  have hb0 : W0.heap[w.heap.size]? = some (.cells (pgC ⟨0, 0, 0, 0, 0, 0, []⟩) 87 (0, 0)) := by rw [hW0]; exact heap_alloc_new
  rw [← hW0]
  refine (qopen_any s _).mono ?_
  rintro en x0 ⟨rfl, hr, u⟩
  rw [hs0] at hr
  obtain ⟨rb, hrb⟩ : ∃ x, w.heap.size + 1 = x := ⟨_, rfl⟩
  rw [hrb] at hr
  have RBW := hid (show w.heap.size < rb by omega)
  obtain ⟨XA, hXA⟩ : ∃ XA, XA = x0.alloc (.cells #[.int .i64 0, .int .i64 0, .int .i64 0, .int .i64 0, .int .i64 0, .int .i64 0, .string ⟨#[]⟩] 87 (0, 0)) := ⟨_, rfl⟩
  have ua : Upd (fun _ => False) x0 XA := by rw [hXA]; exact (Upd.refl _ _).alloc _
  have hbe : XA.heap[x0.heap.size]? = some (.cells (pgC ⟨0, 0, 0, 0, 0, 0, []⟩) 87 (0, 0)) := by rw [hXA]; exact heap_alloc_new
  obtain ⟨eb, heb⟩ : ∃ x, x0.heap.size = x := ⟨_, rfl⟩
  have EBL := hid (show rb < eb by rw [← heb]; exact heap_lt hr)
  rw [heb] at hbe
  have T0 := hid ((ua.block _ (Nat.lt_trans RBW.out (heap_lt hr)) id).trans ((u.block _ (heap_lt hb0) id).trans hb0))
  have V0 := hid ((u0.trans u).trans ua)
  have D0 := hid (hr.upd ua id)
  have EB0 := hid hbe
  obtain ⟨q0, hq0⟩ : ∃ q : RS, q = ⟨s, false⟩ := ⟨_, rfl⟩
  have LL0 := hid (show q0.rest.length ≤ 10000000 by rw [hq0]; exact HL.out)
  have D0 := hid (show RqAt XA rb q0 by rw [hq0]; exact D0.out)
  have HQ0 := hid hq0
  have HXA := hid hXA
  rw [hs0, hrb]
  clear u0 hs0 hb0 hW0 u hr hq0 hrb ua hbe hXA
  go_wp2_with fail
  rw [← HXA.out]
  try rw [heb]
  clear HXA heb
  obtain ⟨k1, hk1, hn1⟩ := numF_cast q0
  obtain ⟨q1, hq1⟩ : ∃ q, (numF q0).2 = q := ⟨_, rfl⟩
  have I1 := hid (show I64 (k1 : Int) by rw [← hk1]; exact numberF_i64 _ _ _)
  refine (qNumR_any rb _ _ D0.out LL0.out).mono ?_
  rintro en x1 ⟨rfl, hr, u⟩
  rw [hq1] at hr
  rw [hk1]
  have LL1 := hid (show q1.rest.length ≤ 10000000 by rw [← hq1]; exact Nat.le_trans (numF_len0 _) LL0.out)
  have hbe := (u.block eb (heap_lt EB0.out) (Nat.ne_of_gt EBL.out)).trans EB0.out
  have fz : x1.frozen? ⟨eb, 0, none⟩ = false := frozen_of_block hbe
  have cz : x1.cell? ⟨eb, 0, none⟩ = some (.int .i64 0) := by rw [cell_of_block hbe]; rfl
  have heb' := heap_lt hbe
  obtain ⟨X1, hX⟩ : ∃ z, z = x1.setCell ⟨eb, 0, none⟩ (.int .i64 k1) := ⟨_, rfl⟩
  have us : Upd (· = eb) x1 X1 := by rw [hX]; exact (Upd.refl _ _).at_ 0 _
  have EB1 := hid (show X1.heap[eb]? = some (.cells (pgC ⟨k1, 0, 0, 0, 0, 0, []⟩) 87 (0, 0)) by rw [hX]; exact (pg_set hbe).1 k1)
  have D1 := hid (hr.upd us (Nat.ne_of_lt EBL.out))
  have V1 := hid ((V0.out.comp u fun i hi e => by have := RBW.out; omega).comp us fun i hi e => by have := RBW.out; have := EBL.out; omega)
  have T1 := hid ((us.block _ (Nat.lt_of_lt_of_le (heap_lt T0.out) u.size) fun e => by have := RBW.out; have := EBL.out; omega).trans ((u.block _ (heap_lt T0.out) fun e => by have := RBW.out; omega).trans T0.out))
  have Q1 := hid hq1; have N1 := hid hn1
  have HX := hid hX
  clear hbe us hX hr u hq1 hk1 hn1 LL0 D0 V0 T0 EB0
  go_wp2_with fail
  rw [← HX.out]
  clear HX cz fz heb'
  go_wp2_with fail
  obtain ⟨k2, hk2, hn2⟩ := numF_cast q1
  obtain ⟨q2, hq2⟩ : ∃ q, (numF q1).2 = q := ⟨_, rfl⟩
  have I2 := hid (show I64 (k2 : Int) by rw [← hk2]; exact numberF_i64 _ _ _)
  refine (qNumR_any rb _ _ D1.out LL1.out).mono ?_
  rintro en x2 ⟨rfl, hr, u⟩
  rw [hq2] at hr
  rw [hk2]
  have LL2 := hid (show q2.rest.length ≤ 10000000 by rw [← hq2]; exact Nat.le_trans (numF_len0 _) LL1.out)
  have hbe := (u.block eb (heap_lt EB1.out) (Nat.ne_of_gt EBL.out)).trans EB1.out
  have fz : x2.frozen? ⟨eb, 1, none⟩ = false := frozen_of_block hbe
  have cz : x2.cell? ⟨eb, 1, none⟩ = some (.int .i64 0) := by rw [cell_of_block hbe]; rfl
  have heb' := heap_lt hbe
  obtain ⟨X2, hX⟩ : ∃ z, z = x2.setCell ⟨eb, 1, none⟩ (.int .i64 k2) := ⟨_, rfl⟩
  have us : Upd (· = eb) x2 X2 := by rw [hX]; exact (Upd.refl _ _).at_ 1 _
  have EB2 := hid (show X2.heap[eb]? = some (.cells (pgC ⟨k1, k2, 0, 0, 0, 0, []⟩) 87 (0, 0)) by rw [hX]; exact (pg_set hbe).2.1 k2)
  have D2 := hid (hr.upd us (Nat.ne_of_lt EBL.out))
  have V2 := hid ((V1.out.comp u fun i hi e => by have := RBW.out; omega).comp us fun i hi e => by have := RBW.out; have := EBL.out; omega)
  have T2 := hid ((us.block _ (Nat.lt_of_lt_of_le (heap_lt T1.out) u.size) fun e => by have := RBW.out; have := EBL.out; omega).trans ((u.block _ (heap_lt T1.out) fun e => by have := RBW.out; omega).trans T1.out))
  have Q2 := hid hq2; have N2 := hid hn2
  have HX := hid hX
  clear hbe us hX hr u hq2 hk2 hn2 LL1 D1 V1 T1 EB1
  go_wp2_with fail
  rw [← HX.out]
  clear HX cz fz heb'
  go_wp2_with fail
  obtain ⟨k3, hk3, hn3⟩ := numF_cast q2
  obtain ⟨q3, hq3⟩ : ∃ q, (numF q2).2 = q := ⟨_, rfl⟩
  have I3 := hid (show I64 (k3 : Int) by rw [← hk3]; exact numberF_i64 _ _ _)
  refine (qNumR_any rb _ _ D2.out LL2.out).mono ?_
  rintro en x3 ⟨rfl, hr, u⟩
  rw [hq3] at hr
  rw [hk3]
  have LL3 := hid (show q3.rest.length ≤ 10000000 by rw [← hq3]; exact Nat.le_trans (numF_len0 _) LL2.out)
  have hbe := (u.block eb (heap_lt EB2.out) (Nat.ne_of_gt EBL.out)).trans EB2.out
  have fz : x3.frozen? ⟨eb, 2, none⟩ = false := frozen_of_block hbe
  have cz : x3.cell? ⟨eb, 2, none⟩ = some (.int .i64 0) := by rw [cell_of_block hbe]; rfl
  have heb' := heap_lt hbe
  obtain ⟨X3, hX⟩ : ∃ z, z = x3.setCell ⟨eb, 2, none⟩ (.int .i64 k3) := ⟨_, rfl⟩
  have us : Upd (· = eb) x3 X3 := by rw [hX]; exact (Upd.refl _ _).at_ 2 _
  have EB3 := hid (show X3.heap[eb]? = some (.cells (pgC ⟨k1, k2, k3, 0, 0, 0, []⟩) 87 (0, 0)) by rw [hX]; exact (pg_set hbe).2.2.1 k3)
  have D3 := hid (hr.upd us (Nat.ne_of_lt EBL.out))
  have V3 := hid ((V2.out.comp u fun i hi e => by have := RBW.out; omega).comp us fun i hi e => by have := RBW.out; have := EBL.out; omega)
  have T3 := hid ((us.block _ (Nat.lt_of_lt_of_le (heap_lt T2.out) u.size) fun e => by have := RBW.out; have := EBL.out; omega).trans ((u.block _ (heap_lt T2.out) fun e => by have := RBW.out; omega).trans T2.out))
  have Q3 := hid hq3; have N3 := hid hn3
  have HX := hid hX
  clear hbe us hX hr u hq3 hk3 hn3 LL2 D2 V2 T2 EB2
  go_wp2_with fail
  rw [← HX.out]
  clear HX cz fz heb'
  go_wp2_with fail
  obtain ⟨k4, hk4, hn4⟩ := numF_cast q3
  obtain ⟨q4, hq4⟩ : ∃ q, (numF q3).2 = q := ⟨_, rfl⟩
  have I4 := hid (show I64 (k4 : Int) by rw [← hk4]; exact numberF_i64 _ _ _)
  refine (qNumR_any rb _ _ D3.out LL3.out).mono ?_
  rintro en x4 ⟨rfl, hr, u⟩
  rw [hq4] at hr
  rw [hk4]
  have LL4 := hid (show q4.rest.length ≤ 10000000 by rw [← hq4]; exact Nat.le_trans (numF_len0 _) LL3.out)
  have hbe := (u.block eb (heap_lt EB3.out) (Nat.ne_of_gt EBL.out)).trans EB3.out
  have fz : x4.frozen? ⟨eb, 3, none⟩ = false := frozen_of_block hbe
  have cz : x4.cell? ⟨eb, 3, none⟩ = some (.int .i64 0) := by rw [cell_of_block hbe]; rfl
  have heb' := heap_lt hbe
  obtain ⟨X4, hX⟩ : ∃ z, z = x4.setCell ⟨eb, 3, none⟩ (.int .i64 k4) := ⟨_, rfl⟩
  have us : Upd (· = eb) x4 X4 := by rw [hX]; exact (Upd.refl _ _).at_ 3 _
  have EB4 := hid (show X4.heap[eb]? = some (.cells (pgC ⟨k1, k2, k3, k4, 0, 0, []⟩) 87 (0, 0)) by rw [hX]; exact (pg_set hbe).2.2.2.1 k4)
  have D4 := hid (hr.upd us (Nat.ne_of_lt EBL.out))
  have V4 := hid ((V3.out.comp u fun i hi e => by have := RBW.out; omega).comp us fun i hi e => by have := RBW.out; have := EBL.out; omega)
  have T4 := hid ((us.block _ (Nat.lt_of_lt_of_le (heap_lt T3.out) u.size) fun e => by have := RBW.out; have := EBL.out; omega).trans ((u.block _ (heap_lt T3.out) fun e => by have := RBW.out; omega).trans T3.out))
  have Q4 := hid hq4; have N4 := hid hn4
  have HX := hid hX
  clear hbe us hX hr u hq4 hk4 hn4 LL3 D3 V3 T3 EB3
  go_wp2_with fail
  rw [← HX.out]
  clear HX cz fz heb'
  go_wp2_with fail
  obtain ⟨k5, hk5, hn5⟩ := numF_cast q4
  obtain ⟨q5, hq5⟩ : ∃ q, (numF q4).2 = q := ⟨_, rfl⟩
  have I5 := hid (show I64 (k5 : Int) by rw [← hk5]; exact numberF_i64 _ _ _)
  refine (qNumR_any rb _ _ D4.out LL4.out).mono ?_
  rintro en x5 ⟨rfl, hr, u⟩
  rw [hq5] at hr
  rw [hk5]
  have LL5 := hid (show q5.rest.length ≤ 10000000 by rw [← hq5]; exact Nat.le_trans (numF_len0 _) LL4.out)
  have hbe := (u.block eb (heap_lt EB4.out) (Nat.ne_of_gt EBL.out)).trans EB4.out
  have fz : x5.frozen? ⟨eb, 4, none⟩ = false := frozen_of_block hbe
  have cz : x5.cell? ⟨eb, 4, none⟩ = some (.int .i64 0) := by rw [cell_of_block hbe]; rfl
  have heb' := heap_lt hbe
  obtain ⟨X5, hX⟩ : ∃ z, z = x5.setCell ⟨eb, 4, none⟩ (.int .i64 k5) := ⟨_, rfl⟩
  have us : Upd (· = eb) x5 X5 := by rw [hX]; exact (Upd.refl _ _).at_ 4 _
  have EB5 := hid (show X5.heap[eb]? = some (.cells (pgC ⟨k1, k2, k3, k4, k5, 0, []⟩) 87 (0, 0)) by rw [hX]; exact (pg_set hbe).2.2.2.2.1 k5)
  have D5 := hid (hr.upd us (Nat.ne_of_lt EBL.out))
  have V5 := hid ((V4.out.comp u fun i hi e => by have := RBW.out; omega).comp us fun i hi e => by have := RBW.out; have := EBL.out; omega)
  have T5 := hid ((us.block _ (Nat.lt_of_lt_of_le (heap_lt T4.out) u.size) fun e => by have := RBW.out; have := EBL.out; omega).trans ((u.block _ (heap_lt T4.out) fun e => by have := RBW.out; omega).trans T4.out))
  have Q5 := hid hq5; have N5 := hid hn5
  have HX := hid hX
  clear hbe us hX hr u hq5 hk5 hn5 LL4 D4 V4 T4 EB4
  go_wp2_with fail
  rw [← HX.out]
  clear HX cz fz heb'
  go_wp2_with fail
  obtain ⟨k6, hk6, hn6⟩ := numF_cast q5
  obtain ⟨q6, hq6⟩ : ∃ q, (numF q5).2 = q := ⟨_, rfl⟩
  have I6 := hid (show I64 (k6 : Int) by rw [← hk6]; exact numberF_i64 _ _ _)
  refine (qNumR_any rb _ _ D5.out LL5.out).mono ?_
  rintro en x6 ⟨rfl, hr, u⟩
  rw [hq6] at hr
  rw [hk6]
  have LL6 := hid (show q6.rest.length ≤ 10000000 by rw [← hq6]; exact Nat.le_trans (numF_len0 _) LL5.out)
  have hbe := (u.block eb (heap_lt EB5.out) (Nat.ne_of_gt EBL.out)).trans EB5.out
  have fz : x6.frozen? ⟨eb, 5, none⟩ = false := frozen_of_block hbe
  have cz : x6.cell? ⟨eb, 5, none⟩ = some (.int .i64 0) := by rw [cell_of_block hbe]; rfl
  have heb' := heap_lt hbe
  obtain ⟨X6, hX⟩ : ∃ z, z = x6.setCell ⟨eb, 5, none⟩ (.int .i64 k6) := ⟨_, rfl⟩
  have us : Upd (· = eb) x6 X6 := by rw [hX]; exact (Upd.refl _ _).at_ 5 _
  have EB6 := hid (show X6.heap[eb]? = some (.cells (pgC ⟨k1, k2, k3, k4, k5, k6, []⟩) 87 (0, 0)) by rw [hX]; exact (pg_set hbe).2.2.2.2.2 k6)
  have D6 := hid (hr.upd us (Nat.ne_of_lt EBL.out))
  have V6 := hid ((V5.out.comp u fun i hi e => by have := RBW.out; omega).comp us fun i hi e => by have := RBW.out; have := EBL.out; omega)
  have T6 := hid ((us.block _ (Nat.lt_of_lt_of_le (heap_lt T5.out) u.size) fun e => by have := RBW.out; have := EBL.out; omega).trans ((u.block _ (heap_lt T5.out) fun e => by have := RBW.out; omega).trans T5.out))
  have Q6 := hid hq6; have N6 := hid hn6
  have HX := hid hX
  clear hbe us hX hr u hq6 hk6 hn6 LL5 D5 V5 T5 EB5
  go_wp2_with fail
  rw [← HX.out]
  clear HX cz fz heb'
  go_wp2_with fail
  refine (qtail_any rb _ _ D6.out).mono ?_
  rintro en x7 ⟨rfl, hr, u⟩
  have EB7 := hid ((u.block _ (heap_lt EB6.out) (Nat.ne_of_gt EBL.out)).trans EB6.out)
  have V7 := hid (V6.out.comp u fun i hi e => by have := RBW.out; omega)
  have T7 := hid ((u.block _ (heap_lt T6.out) fun e => by have := RBW.out; omega).trans T6.out)
  have LLR := hid LL6.out
  clear hr u EB6 T6 V6 D6 LL6
  obtain ⟨X8, hX8⟩ : ∃ X, X = x7.setCell ⟨eb, 6, none⟩ (.string ⟨q6.rest.toArray⟩) := ⟨_, rfl⟩
  have u8 : Upd (· = eb) x7 X8 := by rw [hX8]; exact (Upd.refl _ _).at_ _ _
  have EB8 := hid (show X8.heap[eb]? = some (.cells (pgC ⟨k1, k2, k3, k4, k5, k6, q6.rest⟩) 87 (0, 0)) by rw [hX8]; exact store_6 EB7.out q6.rest)
  have V8 := hid (V7.out.comp u8 fun i hi e => by have := RBW.out; have := EBL.out; omega)
  have T8 := hid ((u8.block _ (heap_lt T7.out) fun e => by have := RBW.out; have := EBL.out; omega).trans T7.out)
  have fz := frozen_of_block (o := 6) EB7.out
  have cc6 : x7.cell? ⟨eb, 6, none⟩ = some (.string ⟨#[]⟩) := by rw [cell_of_block EB7.out]; rfl
  have FT := hid (fun o => frozen_of_block (o := o) T8.out)
  have HX8 := hid hX8
  have PG := hid (show rdPg s = ⟨k1, k2, k3, k4, k5, k6, q6.rest⟩ by
    unfold rdPg
    rw [← HQ0.out]
    dsimp only
    rw [Q1.out, Q2.out, Q3.out, Q4.out, Q5.out, Q6.out, N1.out, N2.out, N3.out, N4.out, N5.out, N6.out])
  have PI := hid (show PgI ⟨k1, k2, k3, k4, k5, k6, q6.rest⟩ from ⟨I1.out, I2.out, I3.out, I4.out, I5.out, I6.out⟩)
  clear u8 hX8 V7 T7
  obtain ⟨dr, hdr⟩ : ∃ b : Bool, decide (¬ ((k1 = 0 ∨ k1 = 1 ∧ k5 = 0 ∧ k6 = 0) ∧ k4 ≤ k3)) = b := ⟨_, rfl⟩
  obtain ⟨bl, hbl⟩ : ∃ l, q6.rest = l := ⟨_, rfl⟩
  rw [hbl] at HX8 EB8 PG PI
  obtain ⟨pg, hpg⟩ : ∃ p : Pg, p = ⟨k1, k2, k3, k4, k5, k6, bl⟩ := ⟨_, rfl⟩
  have hlb : bl.length ≤ 10000000 := by rw [← hbl]; exact LLR.out
  have P1 : pg.kind = k1 ∧ pg.pos = k2 ∧ pg.number = k3 ∧ pg.diff = k4 ∧ pg.offset = k5 ∧ pg.rest = k6 ∧ pg.bytes = bl := by rw [hpg]; exact ⟨rfl, rfl, rfl, rfl, rfl, rfl, rfl⟩
  rw [← hpg] at EB8 PG PI
  obtain ⟨hd, hhd⟩ : ∃ l, hdrP pg = l := ⟨_, rfl⟩
  obtain ⟨T, hT⟩ : ∃ l, hd ++ bl = l := ⟨_, rfl⟩
  have hlh : hd.length ≤ 126 := by rw [← hhd]; exact hdr_126 PI.out
  have a1 : ∀ w, (Op.stringOp .add ⟨hd.toArray⟩ ⟨bl.toArray⟩).run Tryz.prog w = .ok (.string ⟨T.toArray⟩) w := fun w => by rw [← hT]; exact add_lists _ _ (by omega) w
  obtain ⟨rm, hrm⟩ : ∃ r, roomP pg = r := ⟨_, rfl⟩
  have OK := hid (show rdOk s ↔ T = s ∧ dr = false ∧ (bl.length : Int) = rm by
    unfold rdOk FormP txtP
    rw [PG.out, hhd, P1.2.2.2.2.2.2, hT, hrm, P1.1, P1.2.2.1, P1.2.2.2.1, P1.2.2.2.2.1, P1.2.2.2.2.2.1, ← hdr, decide_eq_false_iff_not, Classical.not_not, and_assoc])
  have HH := hid (fun (wq : World) (u : Upd (fun _ => False) X8 wq) => (show Calls Tryz.prog 74 #[.agg (pgC pg)] wq fun e w' => e = .returned (.string ⟨hd.toArray⟩) ∧ Upd (fun _ => False) wq w' from by rw [← hhd]; exact qheader_any pg PI.out wq))
  have HM := hid (fun (wq : World) (u : Upd (fun _ => False) X8 wq) => (show Calls Tryz.prog 71 #[.agg (pgC pg)] wq fun e w' => e = .returned (.int .i64 rm) ∧ Upd (fun _ => False) wq w' from by rw [← hrm]; exact qroom_any pg PI.out wq))
  have HC7 := hid (show ∀ wq, Upd (fun k => k = w.heap.size) X8 wq → Cells7 wq eb pg from fun wq u => by
    have h := pg_cells ((u.block _ (heap_lt EB8.out) (fun e => by have := RBW.out; have := EBL.out; omega)).trans EB8.out)
    exact h)
  have TB := hid T8.out
  have pc : pgC pg = #[.int .i64 k1, .int .i64 k2, .int .i64 k3, .int .i64 k4, .int .i64 k5, .int .i64 k6, .string ⟨bl.toArray⟩] := by rw [hpg]
  rw [pc] at HH HM
  have hS0 : Cells7 X8 eb pg := HC7.out _ (Upd.refl _ _)
  unfold Cells7 at hS0 HC7
  rw [P1.1, P1.2.1, P1.2.2.1, P1.2.2.2.1, P1.2.2.2.2.1, P1.2.2.2.2.2.1, P1.2.2.2.2.2.2] at hS0 HC7
  have HPC := hid pc; have HDR := hid hdr
  obtain ⟨c0, c1, c2, c3, c4, c5, c6⟩ := hS0
  clear hlb hlh hpg hhd hT hrm P1 pc hdr LLR EB7
  go_upto_region 10 with (fail)
  try rw [hbl]
  rw [← HX8.out]
  clear hbl HX8 fz cc6
  go_cut [54] (fun s6 wx => s6 = .bool dr ∧ X8 = wx)
  case first =>
    by_cases d0 : k1 = 0
    · have g0 : decide ((1 : Int) < (k1 : Int)) = false := decide_eq_false (by omega)
      have g0i : ¬ (1 : Int) < (k1 : Int) := by omega
      have g1 : ((k1 : Int) == 1) = false := beq_eq_false_iff_ne.2 (by omega)
      have g1i : ¬ (k1 : Int) = 1 := by omega
      by_cases d4 : k4 ≤ k3
      · have g4 : decide ((k3 : Int) < k4) = false := decide_eq_false (by omega)
        have g4i : ¬ (k3 : Int) < k4 := by omega
        have R := hid (show dr = false by rw [← HDR.out]; exact decide_eq_false fun h => h ⟨.inl d0, d4⟩)
        clear d0 d4
        go_wp2_with fail
        go_meet
        case rel => exact ⟨by rw [R.out], rfl⟩
      · have g4 : decide ((k3 : Int) < k4) = true := decide_eq_true (by omega)
        have g4i : (k3 : Int) < k4 := by omega
        have R := hid (show dr = true by rw [← HDR.out]; exact decide_eq_true fun h => d4 h.2)
        clear d0 d4
        go_wp2_with fail
        go_meet
        case rel => exact ⟨by rw [R.out], rfl⟩
    by_cases d1 : k1 = 1
    · have g0 : decide ((1 : Int) < (k1 : Int)) = false := decide_eq_false (by omega)
      have g0i : ¬ (1 : Int) < (k1 : Int) := by omega
      have g1 : ((k1 : Int) == 1) = true := by rw [d1]; rfl
      have g1i : (k1 : Int) = 1 := by omega
      by_cases d2 : k5 = 0
      · have g2 : ((k5 : Int) != 0) = false := by rw [d2]; rfl
        have g2i : (k5 : Int) = 0 := by omega
        by_cases d3 : k6 = 0
        · have g3 : ((k6 : Int) != 0) = false := by rw [d3]; rfl
          have g3i : (k6 : Int) = 0 := by omega
          by_cases d4 : k4 ≤ k3
          · have g4 : decide ((k3 : Int) < k4) = false := decide_eq_false (by omega)
            have g4i : ¬ (k3 : Int) < k4 := by omega
            have R := hid (show dr = false by rw [← HDR.out]; exact decide_eq_false fun h => h ⟨.inr ⟨d1, d2, d3⟩, d4⟩)
            subst d1 d2 d3
            clear d0 d4
            go_wp2_with fail
            go_meet
            case rel => exact ⟨by rw [R.out], rfl⟩
          · have g4 : decide ((k3 : Int) < k4) = true := decide_eq_true (by omega)
            have g4i : (k3 : Int) < k4 := by omega
            have R := hid (show dr = true by rw [← HDR.out]; exact decide_eq_true fun h => d4 h.2)
            subst d1 d2 d3
            clear d0 d4
            go_wp2_with fail
            go_meet
            case rel => exact ⟨by rw [R.out], rfl⟩
        · have g3 : ((k6 : Int) != 0) = true := by rw [bne_iff_ne]; omega
          have g3i : ¬ (k6 : Int) = 0 := by omega
          have g3b : ((k6 : Int) == 0) = false := beq_eq_false_iff_ne.2 g3i
          have R := hid (show dr = true by rw [← HDR.out]; exact decide_eq_true fun h => by omega)
          subst d1 d2
          clear d0 d3
          go_wp2_with fail
          go_meet
          case rel => exact ⟨by rw [R.out], rfl⟩
      · have g2 : ((k5 : Int) != 0) = true := by rw [bne_iff_ne]; omega
        have g2i : ¬ (k5 : Int) = 0 := by omega
        have g2b : ((k5 : Int) == 0) = false := beq_eq_false_iff_ne.2 g2i
        have R := hid (show dr = true by rw [← HDR.out]; exact decide_eq_true fun h => by omega)
        subst d1
        clear d0 d2
        go_wp2_with fail
        go_meet
        case rel => exact ⟨by rw [R.out], rfl⟩
    · have g0 : decide ((1 : Int) < (k1 : Int)) = true := decide_eq_true (by omega)
      have g0i : (1 : Int) < (k1 : Int) := by omega
      have R := hid (show dr = true by rw [← HDR.out]; exact decide_eq_true fun h => by omega)
      clear d0 d1
      go_wp2_with fail
      go_meet
      case rel => exact ⟨by rw [R.out], rfl⟩
  case rest =>
    obtain ⟨rfl, hwc⟩ := hcut
    subst hwc
    cases dr with
    | true =>
      have ZC := hid (zero_cells TB.out (Upd.refl _ _))
      have z0 := ZC.out.1.1
      have z1 := ZC.out.1.2.1
      have z2 := ZC.out.1.2.2.1
      have z3 := ZC.out.1.2.2.2.1
      have z4 := ZC.out.1.2.2.2.2.1
      have z5 := ZC.out.1.2.2.2.2.2.1
      have z6 := ZC.out.1.2.2.2.2.2.2
      have zf := ZC.out.2
      have RS := hid (rd_store (pg := ⟨k1, k2, k3, k4, k5, k6, bl⟩) TB.out (Upd.refl _ _) V8.out (Nat.le_refl _))
      go_wp2_with fail
      clear z0 z1 z2 z3 z4 z5 z6 zf c0 c1 c2 c3 c4 c5 c6
      obtain ⟨WF, hWF⟩ : ∃ WF, put7 X8 w.heap.size ⟨k1, k2, k3, k4, k5, k6, bl⟩ = WF := ⟨_, rfl⟩
      have RS := RS.out
      rw [hWF] at RS
      rw [show (((((((X8.setCell ⟨w.heap.size, 0, none⟩ (.int .i64 k1)).setCell ⟨w.heap.size, 1, none⟩ (.int .i64 k2)).setCell ⟨w.heap.size, 2, none⟩ (.int .i64 k3)).setCell ⟨w.heap.size, 3, none⟩ (.int .i64 k4)).setCell ⟨w.heap.size, 4, none⟩ (.int .i64 k5)).setCell ⟨w.heap.size, 5, none⟩ (.int .i64 k6)).setCell ⟨w.heap.size, 6, none⟩ (.string ⟨bl.toArray⟩)) = WF from hWF]
      clear hWF
      obtain ⟨z0, z1, z2, z3, z4, z5, z6⟩ := pg_cells RS.2.2
      have V9 := hid RS.1
      clear RS
      refine bodyPost_ret (v := .tuple #[.agg #[.int .i64 k1, .int .i64 k2, .int .i64 k3, .int .i64 k4, .int .i64 k5, .int .i64 k6, .string ⟨bl.toArray⟩], .bool false]) (by rw [results_cell_tmp rfl]; go_simp) rfl ?_
      rw [← HPC.out]
      exact rd_ret PG.out (OK.out.trans ⟨fun h => absurd h.2.1 (by decide), fun h => absurd h (by decide)⟩) V9.out
    | false =>
      go_upto_region 12 with (fail)
      by_cases hTs : T = s
      case neg =>
        have g0 : (T == s) = false := beq_eq_false_iff_ne.2 hTs
        have g00 : decide (T = s) = false := decide_eq_false hTs
        refine wp_region_g (fun w' => w'.cell? ⟨eb, 0, none⟩ = some (.int .i64 k1) ∧ w'.cell? ⟨eb, 1, none⟩ = some (.int .i64 k2) ∧ w'.cell? ⟨eb, 2, none⟩ = some (.int .i64 k3) ∧ w'.cell? ⟨eb, 3, none⟩ = some (.int .i64 k4) ∧ w'.cell? ⟨eb, 4, none⟩ = some (.int .i64 k5) ∧ w'.cell? ⟨eb, 5, none⟩ = some (.int .i64 k6) ∧ w'.cell? ⟨eb, 6, none⟩ = some (.string ⟨bl.toArray⟩)) 17 (by kernel_rfl) ?_
        have hS := HC7.out X8.drew ((Upd.refl (fun k => k = w.heap.size) X8).drew)
        refine g_take (i := 0) rfl (by kernel_rfl) (by kernel_rfl) (by kernel_rfl) (by kernel_rfl) (fun _ _ _ h => h) (Or.inl ⟨by kernel_rfl, by (intro w hSw; (try dsimp only at hSw); obtain ⟨z0, z1, z2, z3, z4, z5, z6⟩ := hSw; go_simp; try with_reducible rfl)⟩) hS ?_
        (try go_frame)
        refine g_take (i := 1) rfl (by kernel_rfl) (by kernel_rfl) (by kernel_rfl) (by kernel_rfl) (fun _ _ _ h => h) (Or.inl ⟨by kernel_rfl, by (intro w hSw; (try dsimp only at hSw); obtain ⟨z0, z1, z2, z3, z4, z5, z6⟩ := hSw; go_simp; try with_reducible rfl)⟩) hS ?_
        (try go_frame)
        refine g_take0 (i := 3) rfl (by kernel_rfl) (by kernel_rfl) (by kernel_rfl) (by decide) (fun _ _ _ h => h) (Or.inl ⟨by kernel_rfl, by (intro w _; go_simp; try with_reducible rfl)⟩) (fun _ => hS) ?_
        (try go_frame)
        refine g_take (i := 4) rfl (by kernel_rfl) (by kernel_rfl) (by kernel_rfl) (by kernel_rfl) (fun _ _ _ h => h) (Or.inl ⟨by kernel_rfl, by (intro w hSw; (try dsimp only at hSw); obtain ⟨z0, z1, z2, z3, z4, z5, z6⟩ := hSw; go_simp; try with_reducible rfl)⟩) hS ?_
        (try go_frame)
        refine g_take0 (i := 6) rfl (by kernel_rfl) (by kernel_rfl) (by kernel_rfl) (by decide) (fun _ _ _ h => h) (Or.inl ⟨by kernel_rfl, by (intro w _; go_simp; try with_reducible rfl)⟩) (fun _ => hS) ?_
        (try go_frame)
        refine g_op (i := 2) (by kernel_rfl) rfl ?_
        go_wp2_with fail
        refine (HH.out X8.drew (Upd.refl (fun _ => False) X8).drew).mono ?_
        rintro en y1 ⟨rfl, u⟩
        have Y1 := hid ((Upd.refl (fun _ => False) X8).drew.trans u)
        have hS1 := HC7.out y1 (Y1.out.mono fun _ h => h.elim)
        clear u hS
        go_wp2_with fail
        refine ⟨fun _ => hS1, ?_⟩
        (try go_frame)
        refine g_take0 (i := 5) rfl (by kernel_rfl) (by kernel_rfl) (by kernel_rfl) (by decide) (fun _ _ _ h => h) (Or.inl ⟨by kernel_rfl, by (intro w _; go_simp; try with_reducible rfl)⟩) (fun _ => hS1) ?_
        (try go_frame)
        refine g_take0 (i := 7) (v := .bool false) rfl (by kernel_rfl) (by kernel_rfl) (by kernel_rfl) (by decide) (fun _ _ _ h => h) (Or.inl ⟨by kernel_rfl, by (intro w _; go_simp; try with_reducible rfl)⟩) (fun _ => hS1) ?_
        (try go_frame)
        refine g_take0 (i := 8) (v := .bool false) rfl (by kernel_rfl) (by kernel_rfl) (by kernel_rfl) (by decide) (fun _ _ _ h => h) (Or.inl ⟨by kernel_rfl, by (intro w _; go_simp; try with_reducible rfl)⟩) (fun _ => hS1) ?_
        (try go_frame)
        refine g_take0 (i := 9) rfl (by kernel_rfl) (by kernel_rfl) (by kernel_rfl) (by decide) (fun _ _ _ h => h) (Or.inr ⟨by kernel_rfl, rfl⟩) (fun _ => hS1) ?_
        (try go_frame)
        refine g_take0 (i := 10) rfl (by kernel_rfl) (by kernel_rfl) (by kernel_rfl) (by decide) (fun _ _ _ h => h) (Or.inr ⟨by kernel_rfl, rfl⟩) (fun _ => hS1) ?_
        (try go_frame)
        refine g_take0 (i := 11) rfl (by kernel_rfl) (by kernel_rfl) (by kernel_rfl) (by decide) (fun _ _ _ h => h) (Or.inr ⟨by kernel_rfl, rfl⟩) (fun _ => hS1) ?_
        (try go_frame)
        refine g_take0 (i := 12) rfl (by kernel_rfl) (by kernel_rfl) (by kernel_rfl) (by decide) (fun _ _ _ h => h) (Or.inr ⟨by kernel_rfl, rfl⟩) (fun _ => hS1) ?_
        (try go_frame)
        refine g_skip (i := 13) (by kernel_rfl) rfl (by kernel_rfl) ⟨fun _ => hS1, ?_⟩
        (try go_frame)
        refine g_take0 (i := 14) rfl (by kernel_rfl) (by kernel_rfl) (by kernel_rfl) (by decide) (fun _ _ _ h => h) (Or.inr ⟨by kernel_rfl, rfl⟩) (fun _ => hS1) ?_
        (try go_frame)
        refine g_take0 (i := 15) rfl (by kernel_rfl) (by kernel_rfl) (by kernel_rfl) (by decide) (fun _ _ _ h => h) (Or.inl ⟨by kernel_rfl, by (intro w _; go_simp; try with_reducible rfl)⟩) (fun _ => hS1) ?_
        (try go_frame)
        have ZC := hid (zero_cells TB.out Y1.out)
        have z0 := ZC.out.1.1
        have z1 := ZC.out.1.2.1
        have z2 := ZC.out.1.2.2.1
        have z3 := ZC.out.1.2.2.2.1
        have z4 := ZC.out.1.2.2.2.2.1
        have z5 := ZC.out.1.2.2.2.2.2.1
        have z6 := ZC.out.1.2.2.2.2.2.2
        have zf := ZC.out.2
        have RS := hid (rd_store (pg := ⟨k1, k2, k3, k4, k5, k6, bl⟩) TB.out Y1.out V8.out (Nat.le_refl _))
        have HS9 := hid (HC7.out _ RS.out.2.1)
        refine g_op (i := 16) (by kernel_rfl) rfl ?_
        go_wp2_with fail
        refine ⟨fun _ => HS9.out, ?_⟩
        (try go_frame)
        refine g_op (i := 17) (by kernel_rfl) rfl ?_
        go_wp2_with fail
        refine ⟨fun _ => HS9.out, ?_⟩
        (try go_frame)
        refine g_done (by kernel_rfl) ?_
        clear z0 z1 z2 z3 z4 z5 z6 zf HS9 c0 c1 c2 c3 c4 c5 c6
        obtain ⟨WF, hWF⟩ : ∃ WF, put7 y1 w.heap.size ⟨k1, k2, k3, k4, k5, k6, bl⟩ = WF := ⟨_, rfl⟩
        have RS := RS.out
        rw [hWF] at RS
        rw [show (((((((y1.setCell ⟨w.heap.size, 0, none⟩ (.int .i64 k1)).setCell ⟨w.heap.size, 1, none⟩ (.int .i64 k2)).setCell ⟨w.heap.size, 2, none⟩ (.int .i64 k3)).setCell ⟨w.heap.size, 3, none⟩ (.int .i64 k4)).setCell ⟨w.heap.size, 4, none⟩ (.int .i64 k5)).setCell ⟨w.heap.size, 5, none⟩ (.int .i64 k6)).setCell ⟨w.heap.size, 6, none⟩ (.string ⟨bl.toArray⟩)) = WF from hWF]
        clear hWF
        obtain ⟨z0, z1, z2, z3, z4, z5, z6⟩ := pg_cells RS.2.2
        have V9 := hid RS.1
        clear RS
        go_wp2_with fail
        refine bodyPost_ret (v := .tuple #[.agg #[.int .i64 k1, .int .i64 k2, .int .i64 k3, .int .i64 k4, .int .i64 k5, .int .i64 k6, .string ⟨bl.toArray⟩], .bool false]) (by rw [results_cell_tmp rfl]; go_simp) rfl ?_
        rw [← HPC.out]
        exact rd_ret PG.out (OK.out.trans ⟨fun h => absurd h.1 hTs, fun h => by cases h⟩) V9.out
      subst hTs
      obtain ⟨bb, hbb⟩ : ∃ b, ((bl.length : Int) == rm) = b := ⟨_, rfl⟩
      refine wp_region_g (fun w' => w'.cell? ⟨eb, 0, none⟩ = some (.int .i64 k1) ∧ w'.cell? ⟨eb, 1, none⟩ = some (.int .i64 k2) ∧ w'.cell? ⟨eb, 2, none⟩ = some (.int .i64 k3) ∧ w'.cell? ⟨eb, 3, none⟩ = some (.int .i64 k4) ∧ w'.cell? ⟨eb, 4, none⟩ = some (.int .i64 k5) ∧ w'.cell? ⟨eb, 5, none⟩ = some (.int .i64 k6) ∧ w'.cell? ⟨eb, 6, none⟩ = some (.string ⟨bl.toArray⟩)) 17 (by kernel_rfl) ?_
      have hS := HC7.out X8.drew ((Upd.refl (fun k => k = w.heap.size) X8).drew)
      refine g_take (i := 0) rfl (by kernel_rfl) (by kernel_rfl) (by kernel_rfl) (by kernel_rfl) (fun _ _ _ h => h) (Or.inl ⟨by kernel_rfl, by (intro w hSw; (try dsimp only at hSw); obtain ⟨z0, z1, z2, z3, z4, z5, z6⟩ := hSw; go_simp; try with_reducible rfl)⟩) hS ?_
      (try go_frame)
      refine g_take (i := 1) rfl (by kernel_rfl) (by kernel_rfl) (by kernel_rfl) (by kernel_rfl) (fun _ _ _ h => h) (Or.inl ⟨by kernel_rfl, by (intro w hSw; (try dsimp only at hSw); obtain ⟨z0, z1, z2, z3, z4, z5, z6⟩ := hSw; go_simp; try with_reducible rfl)⟩) hS ?_
      (try go_frame)
      refine g_take0 (i := 3) rfl (by kernel_rfl) (by kernel_rfl) (by kernel_rfl) (by decide) (fun _ _ _ h => h) (Or.inl ⟨by kernel_rfl, by (intro w _; go_simp; try with_reducible rfl)⟩) (fun _ => hS) ?_
      (try go_frame)
      refine g_take (i := 4) rfl (by kernel_rfl) (by kernel_rfl) (by kernel_rfl) (by kernel_rfl) (fun _ _ _ h => h) (Or.inl ⟨by kernel_rfl, by (intro w hSw; (try dsimp only at hSw); obtain ⟨z0, z1, z2, z3, z4, z5, z6⟩ := hSw; go_simp; try with_reducible rfl)⟩) hS ?_
      (try go_frame)
      refine g_take0 (i := 6) rfl (by kernel_rfl) (by kernel_rfl) (by kernel_rfl) (by decide) (fun _ _ _ h => h) (Or.inl ⟨by kernel_rfl, by (intro w _; go_simp; try with_reducible rfl)⟩) (fun _ => hS) ?_
      (try go_frame)
      refine g_op (i := 2) (by kernel_rfl) rfl ?_
      go_wp2_with fail
      refine (HH.out X8.drew (Upd.refl (fun _ => False) X8).drew).mono ?_
      rintro en y1 ⟨rfl, u⟩
      have Y1 := hid ((Upd.refl (fun _ => False) X8).drew.trans u)
      have hS1 := HC7.out y1 (Y1.out.mono fun _ h => h.elim)
      clear u hS
      go_wp2_with fail
      refine ⟨fun _ => hS1, ?_⟩
      (try go_frame)
      refine g_take0 (i := 5) rfl (by kernel_rfl) (by kernel_rfl) (by kernel_rfl) (by decide) (fun _ _ _ h => h) (Or.inl ⟨by kernel_rfl, by (intro w _; go_simp; try with_reducible rfl)⟩) (fun _ => hS1) ?_
      (try go_frame)
      refine g_take0 (i := 7) (v := .bool true) rfl (by kernel_rfl) (by kernel_rfl) (by kernel_rfl) (by decide) (fun _ _ _ h => h) (Or.inl ⟨by kernel_rfl, by (intro w _; go_simp; try with_reducible rfl)⟩) (fun _ => hS1) ?_
      (try go_frame)
      refine g_take0 (i := 8) (v := .bool true) rfl (by kernel_rfl) (by kernel_rfl) (by kernel_rfl) (by decide) (fun _ _ _ h => h) (Or.inl ⟨by kernel_rfl, by (intro w _; go_simp; try with_reducible rfl)⟩) (fun _ => hS1) ?_
      (try go_frame)
      refine g_take0 (i := 9) rfl (by kernel_rfl) (by kernel_rfl) (by kernel_rfl) (by decide) (fun _ _ _ h => h) (Or.inl ⟨by kernel_rfl, by (intro w _; go_simp; try with_reducible rfl)⟩) (fun _ => hS1) ?_
      (try go_frame)
      refine g_take (i := 10) rfl (by kernel_rfl) (by kernel_rfl) (by kernel_rfl) (by kernel_rfl) (fun _ _ _ h => h) (Or.inl ⟨by kernel_rfl, by (intro w hSw; (try dsimp only at hSw); obtain ⟨z0, z1, z2, z3, z4, z5, z6⟩ := hSw; go_simp; try with_reducible rfl)⟩) hS1 ?_
      (try go_frame)
      refine g_take0 (i := 11) rfl (by kernel_rfl) (by kernel_rfl) (by kernel_rfl) (by decide) (fun _ _ _ h => h) (Or.inl ⟨by kernel_rfl, by (intro w _; go_simp; try with_reducible rfl)⟩) (fun _ => hS1) ?_
      (try go_frame)
      refine g_take (i := 12) rfl (by kernel_rfl) (by kernel_rfl) (by kernel_rfl) (by kernel_rfl) (fun _ _ _ h => h) (Or.inl ⟨by kernel_rfl, by (intro w hSw; (try dsimp only at hSw); obtain ⟨z0, z1, z2, z3, z4, z5, z6⟩ := hSw; go_simp; try with_reducible rfl)⟩) hS1 ?_
      (try go_frame)
      refine g_want (i := 13) (by kernel_rfl) rfl (by kernel_rfl) ?_
      go_wp2_with fail
      refine (HM.out y1 Y1.out).mono ?_
      rintro en y2 ⟨rfl, u⟩
      have Y2 := hid (Y1.out.trans u)
      have hS2 := HC7.out y2 (Y2.out.mono fun _ h => h.elim)
      clear u hS1
      go_wp2_with fail
      first | (refine ⟨hS2, ?_⟩) | (refine ⟨fun _ => hS2, ?_⟩)
      (try go_frame)
      refine g_take0 (i := 14) (v := .bool bb) rfl (by kernel_rfl) (by kernel_rfl) (by kernel_rfl) (by decide) (fun _ _ _ h => h) (Or.inl ⟨by kernel_rfl, by (intro w _; go_simp; try with_reducible rfl)⟩) (fun _ => hS2) ?_
      (try go_frame)
      refine g_take0 (i := 15) (v := .bool bb) rfl (by kernel_rfl) (by kernel_rfl) (by kernel_rfl) (by decide) (fun _ _ _ h => h) (Or.inl ⟨by kernel_rfl, by (intro w _; go_simp; try with_reducible rfl)⟩) (fun _ => hS2) ?_
      (try go_frame)
      have ZC := hid (zero_cells TB.out Y2.out)
      have z0 := ZC.out.1.1
      have z1 := ZC.out.1.2.1
      have z2 := ZC.out.1.2.2.1
      have z3 := ZC.out.1.2.2.2.1
      have z4 := ZC.out.1.2.2.2.2.1
      have z5 := ZC.out.1.2.2.2.2.2.1
      have z6 := ZC.out.1.2.2.2.2.2.2
      have zf := ZC.out.2
      have RS := hid (rd_store (pg := ⟨k1, k2, k3, k4, k5, k6, bl⟩) TB.out Y2.out V8.out (Nat.le_refl _))
      have HS9 := hid (HC7.out _ RS.out.2.1)
      refine g_op (i := 16) (by kernel_rfl) rfl ?_
      go_wp2_with fail
      refine ⟨fun _ => HS9.out, ?_⟩
      (try go_frame)
      refine g_op (i := 17) (by kernel_rfl) rfl ?_
      go_wp2_with fail
      refine ⟨fun _ => HS9.out, ?_⟩
      (try go_frame)
      refine g_done (by kernel_rfl) ?_
      clear z0 z1 z2 z3 z4 z5 z6 zf HS9 c0 c1 c2 c3 c4 c5 c6
      obtain ⟨WF, hWF⟩ : ∃ WF, put7 y2 w.heap.size ⟨k1, k2, k3, k4, k5, k6, bl⟩ = WF := ⟨_, rfl⟩
      have RS := RS.out
      rw [hWF] at RS
      rw [show (((((((y2.setCell ⟨w.heap.size, 0, none⟩ (.int .i64 k1)).setCell ⟨w.heap.size, 1, none⟩ (.int .i64 k2)).setCell ⟨w.heap.size, 2, none⟩ (.int .i64 k3)).setCell ⟨w.heap.size, 3, none⟩ (.int .i64 k4)).setCell ⟨w.heap.size, 4, none⟩ (.int .i64 k5)).setCell ⟨w.heap.size, 5, none⟩ (.int .i64 k6)).setCell ⟨w.heap.size, 6, none⟩ (.string ⟨bl.toArray⟩)) = WF from hWF]
      clear hWF
      obtain ⟨z0, z1, z2, z3, z4, z5, z6⟩ := pg_cells RS.2.2
      have V9 := hid RS.1
      clear RS
      go_wp2_with fail
      refine bodyPost_ret (v := .tuple #[.agg #[.int .i64 k1, .int .i64 k2, .int .i64 k3, .int .i64 k4, .int .i64 k5, .int .i64 k6, .string ⟨bl.toArray⟩], .bool bb]) (by rw [results_cell_tmp rfl]; go_simp) rfl ?_
      rw [← HPC.out]
      exact rd_ret PG.out (OK.out.trans ⟨fun h => by rw [← hbb, h.2.2]; simp, fun h => ⟨by first | rfl | trivial, by first | rfl | trivial, by rw [← hbb] at h; simpa using h⟩⟩) V9.out
end Go.Proofs.YtlefilfdomjkeaaGreatDoor
