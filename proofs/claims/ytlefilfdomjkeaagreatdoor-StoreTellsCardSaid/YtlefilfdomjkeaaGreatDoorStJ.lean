/- Walk: the pieces of records are put together. -/
import Derived.Test.YtlefilfdomjkeaaGreatDoorStI
import Derived.Test.YtlefilfdomjkeaaGreatDoorFr
import Derived.Deep.CutBlock
namespace Go.Proofs.YtlefilfdomjkeaaGreatDoor
open Go.RowKit Go.Deep
theorem zeroPg (w : World) : (zeroValue 75).run Tryz.prog w = .ok (.agg #[.int .i64 0, .int .i64 0, .int .i64 0, .int .i64 0, .int .i64 0, .int .i64 0, .string ⟨#[]⟩]) w := by kernel_rfl
/-- How far the pages have been put together. -/
def ColAt (O : Nat → Prop) (w : World) (x p q : Nat) (F : Fl) (S : St) (c : Cs) (w' : World) : Prop :=
  (∃ O' vr va, StoreAt w' O' x p q F { S with recs := c.recs, ats := c.ats } vr va ∧ ∀ k, O' k → O k ∨ w.heap.size ≤ k) ∧ Sto O w w'
def CollPost (O : Nat → Prop) (x p q : Nat) (F : Fl) (S : St) (c : Cs) (w : World) (e : Ending) (w' : World) : Prop := e = .returned (.tuple #[]) ∧ ColAt O w x p q F S c w'
theorem ColAt.upd0 {O : Nat → Prop} {w : World} {x p q : Nat} {F : Fl} {S : St} {c : Cs} {w1 w2 : World} (h : ColAt O w x p q F S c w1) (u : Upd (fun _ => False) w1 w2) : ColAt O w x p q F S c w2 :=
  let ⟨⟨O', vr, va, st, ho⟩, sto⟩ := h
  ⟨⟨O', vr, va, st.upd0 u, ho⟩, sto.then0 u⟩
theorem ColAt.more {O O' : Nat → Prop} {w : World} {x p q : Nat} {F : Fl} {S : St} {c c' : Cs} {w1 w2 : World} (ho : ∀ k, O' k → O k ∨ w.heap.size ≤ k) (s1 : Sto O w w1)
    (h : (∃ O2 vr va, StoreAt w2 O2 x p q F { S with recs := c'.recs, ats := c'.ats } vr va ∧ ∀ k, O2 k → O' k ∨ w1.heap.size ≤ k) ∧ Sto O' w1 w2) : ColAt O w x p q F S c' w2 :=
  let ⟨⟨O2, vr, va, st, ho2⟩, s2⟩ := h
  ⟨⟨O2, vr, va, st, fun k hk => (ho2 k hk).elim (fun h => ho k h) fun h => .inr (Nat.le_trans s1.size h)⟩, s1.trans s2 ho⟩
section
variable {w : World} {O : Nat → Prop} {x p q : Nat} {F : Fl} {S : St} {vr va : Value}
set_option maxRecDepth 100000 in
set_option maxHeartbeats 2000000 in
theorem collect_any (h : StoreAt w O x p q F S vr va) (hr : S.recs = []) (ha : S.ats = []) (hf1 : S.first ≤ 1000000) {bm : Nat} {l : List (Int × Value)} (M : MapIs Tryz.prog 3 w bm l) (hbm : ¬ O bm) {L : List Pg} (hL : ∀ p ∈ L, p.Good) (hn : L.length ≤ 1000)
    (hl : ∀ p ∈ L, l.lookup (p.pos : Int) = some (.agg (pgC p))) {B : Nat} {vo : Value} (ho : w.ownsRow B 3 1 vo L.length (L.map fun p => .int .i64 (p.pos : Int))) (hob : ∀ g, vo.ownBlock = some g → ¬ O g) :
    Calls Tryz.prog 37 #[.pointer (some ⟨x, 0, none⟩), .map (some bm), vo] w (CollPost O x p q F S (collP S.first L) w) := by
  have hcell : ∀ (k : Nat) (hk : k < L.length), ∃ g cap, vo = .slice (some ⟨g, 0, none⟩) L.length cap ∧ ¬ O g ∧ w.cell? ⟨g, k, none⟩ = some (.int .i64 (L[k].pos : Int)) := fun k hk => by
    obtain ⟨_, ⟨_, h0⟩ | ⟨g, cap, cur, rfl, _, hg, _, _, _, ht⟩⟩ := ho
    · omega
    · refine ⟨g, cap, rfl, hob g rfl, ?_⟩
      rw [cell_of_block hg, ← Array.getElem?_toList]
      have : ((cur.toList.take (L.length * 1)))[k]? = some (.int .i64 (L[k].pos : Int)) := by rw [ht]; simp [hk]
      rw [List.getElem?_take] at this
      split at this
      · exact this
      · cases this
  obtain ⟨ao, co, rfl, hco1, hco2⟩ : ∃ a cap, vo = .slice a L.length cap ∧ L.length ≤ cap ∧ cap ≤ maxLen := by
    rcases ownsRow_fits ho with ⟨rfl, h0⟩ | ⟨g, cap, rfl, _, _, h1, h2⟩
    · exact ⟨none, 0, by rw [h0], by omega, by unfold maxLen; omega⟩
    · exact ⟨_, cap, rfl, h1, h2⟩
  have A0 := hid (show ColAt O w x p q F S ⟨-1, 0, [], [], []⟩ w from ⟨⟨O, vr, va, by rw [← hr, ← ha]; exact h, fun _ => .inl⟩, Sto.refl _ _⟩)
  have HC := hid hcell; have HM := hid M; have HBM := hid hbm; have HL := hid hL; have HLK := hid hl; have HN := hid hn
  have hlt := h.lt
  have XNE := hid (show x < w.heap.size from h.lt x h.ox)
  have hco2 : co ≤ 9223372036854775807 := hco2
  clear h hr ha M hbm hL hl ho hob hcell hlt
  go_enter Tryz.func37, Tryz.ntmps37
  go_wp2_with fail
  go_loopg [6, 7, 8, 14] L.length (fun gg s6 s7 s8 s14 wr => ∃ (k : Nat) (c : Cs), cumC S.first L k = c ∧ k ≤ L.length ∧ gg = L.length - k ∧ s14 = .int .i64 k ∧ s6 = .int .i64 c.number ∧ s7 = .int .i64 c.at_ ∧ s8 = .string ⟨c.text.toArray⟩ ∧ ColAt O w x p q F S c wr)
  case atStart => exact ⟨0, ⟨-1, 0, [], [], []⟩, rfl, Nat.zero_le _, rfl, rfl, rfl, rfl, rfl, A0.out⟩
  case round =>
    obtain ⟨k, c, hcum, hk, hg, rfl, rfl, rfl, rfl, hca⟩ := hrel
    have CUM := hid hcum; have CA := hid hca; have HG := hid hg
    clear hcum hca hg
    by_cases hkl : k < L.length
    case neg =>
      have hki : ¬ (k : Int) < L.length := by omega
      have R := hid (show c = collP S.first L from CUM.out.symm.trans (cumC_all (by omega)))
      go_wp2_with fail
      go_end0
      rw [R.out] at CA
      exact ⟨rfl, CA.out⟩
    obtain ⟨ob, co', hv, hob, hcell⟩ := HC.out k hkl
    injection hv with hv _ hcc
    subst hv
    subst hcc
    have OK := hid (cumC_ok (first := S.first) HL.out k hk)
    have STEP := hid (cumC_succ (first := S.first) hkl)
    have GOOD := hid (HL.out _ (List.getElem_mem hkl))
    have LK := hid (HLK.out _ (List.getElem_mem hkl))
    rw [CUM.out] at OK STEP
    obtain ⟨pg, hpg⟩ : ∃ pg, L[k] = pg := ⟨_, rfl⟩
    rw [hpg] at STEP GOOD LK hcell
    clear hpg
    obtain ⟨⟨O', vr1, va1, st1, ho1⟩, sto1⟩ := CA.out
    have ck := cell_kept hcell (sto1.block (World.block_lt_of_cell? _ _ hcell) hob)
    have mr := HM.out.kept (sto1.block HM.out.lt HBM.out)
    have hpos : (pg.pos : Int) ≤ 1000000 := by have := GOOD.out.pos; omega
    have hwf : (Lit.int .i64 (pg.pos : Int)).wf = true := iwf ⟨by omega, by omega⟩
    have hget := mr.get Tryz.underlying3 Tryz.underlying73 (zeroPg wr) hwf
    rw [LK.out] at hget
    simp only [Option.getD_some] at hget
    have hki : (k : Int) < L.length := by omega
    have ST1 := hid st1; have SO1 := hid sto1; have HO1 := hid ho1
    clear st1 sto1 ho1 mr hwf hcell A0
    go_upto_block 2 with (fail)
    obtain ⟨pb, hpb⟩ : ∃ pb, wr.heap.size = pb := ⟨_, rfl⟩
    obtain ⟨wa, hwa⟩ : ∃ wa, wr.alloc (.cells (pgC pg) 75 (0, 0)) = wa := ⟨_, rfl⟩
    have hcb : wa.heap[wr.heap.size]? = some (.cells (pgC pg) 75 (0, 0)) := by rw [← hwa]; exact heap_alloc_new
    have ua : Upd (fun _ => False) wr wa := by rw [← hwa]; exact (Upd.refl _ _).alloc _
    have ST2 := hid (ST1.out.upd0 ua); have SO2 := hid (SO1.out.then0 ua); have CB := hid hcb; have HWA := hid hwa
    rw [hwa]
    rw [hpb] at CB hcb ⊢
    obtain ⟨p0, p1, p2, p3, p4, p5, p6⟩ := pg_cells hcb
    clear hcb ua hwa hpb ck hget ST1 SO1
    obtain ⟨kd, hkd⟩ : ∃ z : Int, z = (pg.kind : Int) := ⟨_, rfl⟩
    obtain ⟨nm, hnm⟩ : ∃ z : Int, z = (pg.number : Int) := ⟨_, rfl⟩
    obtain ⟨off, hoff⟩ : ∃ z : Int, z = (pg.offset : Int) := ⟨_, rfl⟩
    obtain ⟨rs, hrs⟩ : ∃ z : Int, z = (pg.rest : Int) := ⟨_, rfl⟩
    rw [← hkd] at p0; rw [← hnm] at p2; rw [← hoff] at p4; rw [← hrs] at p5
    have b1 : 0 ≤ off ∧ off ≤ 1000000 := by have := GOOD.out.offset; omega
    have b2 : 0 ≤ rs ∧ rs ≤ 1000000 := by have := GOOD.out.rest; omega
    have HKD := hid hkd; have HNM := hid hnm; have HOFF := hid hoff; have HRS := hid hrs
    clear hkd hnm hoff hrs
    by_cases h1 : kd = 0
    case neg =>
      have g1 : (kd == 0) = false := beq_eq_false_iff_ne.2 h1
      have SAME := hid (show stepC S.first c pg = c from stepC_kind (by intro e; apply h1; rw [HKD.out, e]; rfl))
      go_wp2_with fail
      go_roundg (L.length - (k + 1))
      case measure => have := HG.out; omega
      case rel => exact ⟨k + 1, _, STEP.out.trans SAME.out, hkl, rfl, by go_num, rfl, rfl, rfl, ⟨⟨O', vr1, va1, ST2.out, HO1.out⟩, SO2.out⟩⟩
    subst h1
    by_cases h2 : off = 0
    case pos =>
      have F1 := hid (show stepC S.first c pg = finC S.first ⟨(pg.number : Int), pg.pos, pg.bytes, c.recs, c.ats⟩ pg from stepC_new (by have := HKD.out; omega) (by have := HOFF.out; omega))
      have BT := hid (show pg.bytes.length ≤ 1000000 by have := GOOD.out.bytes; omega)
      have BN := hid (show (0 : Int) ≤ (pg.number : Int) ∧ (pg.number : Int) ≤ 1000000 by have := GOOD.out.number; omega)
      have BA := hid (show pg.pos ≤ 1000000 from GOOD.out.pos)
      rw [HNM.out] at p2
      have HOFZ := hid h2
      subst h2
      go_upto_region 6 with (fail)
      go_region
      have ST2 := hid (ST2.out.upd0 (Upd.refl _ wa).drew); have SO2 := hid (SO2.out.then0 (Upd.refl _ wa).drew)
      obtain ⟨wa, hwa⟩ : ∃ wb, wb = wa.drew := ⟨_, rfl⟩
      have p4 : wa.cell? ⟨pb, 4, none⟩ = some (.int .i64 0) := by rw [hwa]; exact p4
      have p5 : wa.cell? ⟨pb, 5, none⟩ = some (.int .i64 rs) := by rw [hwa]; exact p5
      rw [← hwa] at ST2 SO2 ⊢
      clear hwa p0 p1 p2 p3 p6 HOFZ
      have LT := hid (show (pg.bytes).length = pg.bytes.length from rfl)
      obtain ⟨tx, htx⟩ : ∃ tx, pg.bytes = tx := ⟨_, rfl⟩
      rw [htx] at F1 BT ⊢
      clear htx LT
      obtain ⟨n1, hn1⟩ : ∃ z : Int, (pg.number : Int) = z := ⟨_, rfl⟩
      rw [hn1] at F1 BN ⊢
      clear hn1
      obtain ⟨a1, ha1⟩ : ∃ z : Nat, pg.pos = z := ⟨_, rfl⟩
      rw [ha1] at F1 BA ⊢
      clear ha1
      have bt : (tx.length : Int) ≤ 1000000 := by have := BT.out; omega
      have bo : rs ≤ 2000000 := by omega
      go_upto_region 9 with (fail)
      by_cases hE : (tx.length : Int) = rs
      case neg =>
        have hEb : ((tx.length : Int) == rs) = false := beq_eq_false_iff_ne.2 hE
        have F2 := hid (F1.out.trans (finC_more (by intro e; apply hE; have e : tx.length = pg.offset + pg.rest := e; have h1 := HOFF.out; have h2 := HRS.out; omega)))
        go_wp2_with fail
        go_roundg (L.length - (k + 1))
        case measure => have := HG.out; omega
        case rel => exact ⟨k + 1, _, STEP.out.trans F2.out, hkl, rfl, by go_num, rfl, rfl, rfl, ⟨⟨O', vr1, va1, ST2.out, HO1.out⟩, SO2.out⟩⟩
      have hEb : ((tx.length : Int) == rs) = true := beq_iff_eq.2 hE
      have hEn := hid (show tx.length = pg.offset + pg.rest by have h1 := HOFF.out; have h2 := HRS.out; omega)
      obtain ⟨⟨c0, c1, c2, c3, c4, c5, c6⟩, hf⟩ := ST2.out.cells
      obtain ⟨ar, cr, rfl, hr1, hr2⟩ := ST2.out.recs.fits
      dsimp only at c3 c4 c5 c6 hr1 hr2
      have hrl := OK.out.recs
      have b3 : (S.first : Int) + c.recs.length ≤ 2000000 := by have := HN.out; omega
      clear hrl
      by_cases hF : n1 = (S.first : Int) + c.recs.length
      case neg =>
        have hFb : (n1 == (S.first : Int) + c.recs.length) = false := beq_eq_false_iff_ne.2 hF
        have F2 := hid (F1.out.trans (finC_lost hEn.out (by intro e; apply hF; dsimp only at e; rw [e]; exact Int.natCast_add _ _)))
        go_upto_region 10 with (fail)
        clear hE hF hEb
        go_quiet (fail)
        go_wp2_with fail
        go_roundg (L.length - (k + 1))
        case measure => have := HG.out; omega
        case rel => exact ⟨k + 1, _, STEP.out.trans F2.out, hkl, rfl, by go_num, rfl, rfl, rfl, ⟨⟨O', _, va1, ST2.out.upd0 ((Upd.refl _ _).drewN _), HO1.out⟩, SO2.out.then0 ((Upd.refl _ _).drewN _)⟩⟩
      have hFb : (n1 == (S.first : Int) + c.recs.length) = true := beq_iff_eq.2 hF
      have F2 := hid (F1.out.trans (finC_done hEn.out (by dsimp only; rw [hF]; exact (Int.natCast_add _ _).symm)))
      go_upto_region 10 with (fail)
      clear hE hEb
      go_quiet (fail)
      go_upto_region 11 with (fail)
      obtain ⟨W, hW⟩ : ∃ W, wa.drewN nq = W := ⟨_, rfl⟩
      have SW := hid (show StoreAt W O' x p q F { S with recs := c.recs, ats := c.ats } (.slice ar c.recs.length cr) va1 by rw [← hW]; exact ST2.out.upd0 ((Upd.refl _ _).drewN _))
      have SOW := hid (show Sto O w W by rw [← hW]; exact SO2.out.then0 ((Upd.refl _ _).drewN _))
      have HLN := hid (show c.recs.length + 1 ≤ 1000000 ∧ c.ats.length + 1 ≤ 1000000 by have h1 := OK.out.recs; have h2 := OK.out.same; have h3 := HN.out; omega)
      rw [hW]
      clear hW c0 c1 c2 c3 c4 c5 c6 hf p4 p5 ST2 SO2 hF hFb b3
      have HX := hid SW.out.head
      have CL := hid (fun (w' : World) (e : w'.heap[x]? = W.heap[x]?) => SW.out.cells_of e)
      refine wp_region_g (fun w' => w'.cell? ⟨x, 5, none⟩ = some (.slice ar c.recs.length cr) ∧ w'.cell? ⟨x, 6, none⟩ = some va1) 15 (by kernel_rfl) ?_
      obtain ⟨Wd, hWd⟩ : ∃ Wd, W.drew = Wd := ⟨_, rfl⟩
      have uWd : Upd (fun _ => False) W Wd := by rw [← hWd]; exact (Upd.refl _ _).drew
      have R0 := hid (SW.out.rowsOf.upd0 (heap_lt SW.out.head) uWd)
      rw [hWd]
      clear hWd uWd
      have hS := CL.out Wd R0.out.hx
      refine g_take0 (i := 0) rfl (by kernel_rfl) (by kernel_rfl) (by kernel_rfl) (by decide) (fun _ _ _ h => h) (Or.inl ⟨by kernel_rfl, by (intro w _; go_simp; try with_reducible rfl)⟩) (fun _ => hS) ?_
      (try simp only [List.getElem_toArray, List.getElem_cons_zero, List.getElem_cons_succ])
      (try go_frame)
      refine g_take0 (i := 1) rfl (by kernel_rfl) (by kernel_rfl) (by kernel_rfl) (by decide) (fun _ _ _ h => h) (Or.inl ⟨by kernel_rfl, by (intro w _; go_simp; try with_reducible rfl)⟩) (fun _ => hS) ?_
      (try simp only [List.getElem_toArray, List.getElem_cons_zero, List.getElem_cons_succ])
      (try go_frame)
      refine g_take0 (i := 2) rfl (by kernel_rfl) (by kernel_rfl) (by kernel_rfl) (by decide) (fun _ _ _ h => h) (Or.inl ⟨by kernel_rfl, by (intro w _; go_simp; try with_reducible rfl)⟩) (fun _ => hS) ?_
      (try simp only [List.getElem_toArray, List.getElem_cons_zero, List.getElem_cons_succ])
      (try go_frame)
      refine g_take0 (i := 3) rfl (by kernel_rfl) (by kernel_rfl) (by kernel_rfl) (by decide) (fun _ _ _ h => h) (Or.inl ⟨by kernel_rfl, by (intro w _; go_simp; try with_reducible rfl)⟩) (fun _ => hS) ?_
      (try simp only [List.getElem_toArray, List.getElem_cons_zero, List.getElem_cons_succ])
      (try go_frame)
      refine g_take0 (i := 4) rfl (by kernel_rfl) (by kernel_rfl) (by kernel_rfl) (by decide) (fun _ _ _ h => h) (Or.inl ⟨by kernel_rfl, by (intro w _; go_simp; try with_reducible rfl)⟩) (fun _ => hS) ?_
      (try simp only [List.getElem_toArray, List.getElem_cons_zero, List.getElem_cons_succ])
      (try go_frame)
      refine g_takeP [15, 8] (i := 5) (v := .slice ar c.recs.length cr) rfl (by kernel_rfl) (by kernel_rfl) (by kernel_rfl) (by kernel_rfl) (fun _ _ _ h => h) (Or.inl ⟨by kernel_rfl, by (intro w hSw; (try dsimp only at hSw); obtain ⟨z0, z1⟩ := hSw; go_simp; try with_reducible rfl)⟩) hS ?_
      (try simp only [List.getElem_toArray, List.getElem_cons_zero, List.getElem_cons_succ])
      (try go_frame)
      refine g_take0 (i := 6) rfl (by kernel_rfl) (by kernel_rfl) (by kernel_rfl) (by decide) (fun _ _ _ h => h) (Or.inl ⟨by kernel_rfl, by (intro w _; go_simp; try with_reducible rfl)⟩) (fun _ => hS) ?_
      (try simp only [List.getElem_toArray, List.getElem_cons_zero, List.getElem_cons_succ])
      (try go_frame)
      refine g_take0 (i := 9) rfl (by kernel_rfl) (by kernel_rfl) (by kernel_rfl) (by decide) (fun _ _ _ h => h) (Or.inl ⟨by kernel_rfl, by (intro w _; go_simp; try with_reducible rfl)⟩) (fun _ => hS) ?_
      (try simp only [List.getElem_toArray, List.getElem_cons_zero, List.getElem_cons_succ])
      (try go_frame)
      refine g_take0 (i := 10) rfl (by kernel_rfl) (by kernel_rfl) (by kernel_rfl) (by decide) (fun _ _ _ h => h) (Or.inl ⟨by kernel_rfl, by (intro w _; go_simp; try with_reducible rfl)⟩) (fun _ => hS) ?_
      (try simp only [List.getElem_toArray, List.getElem_cons_zero, List.getElem_cons_succ])
      (try go_frame)
      refine g_take0 (i := 11) rfl (by kernel_rfl) (by kernel_rfl) (by kernel_rfl) (by decide) (fun _ _ _ h => h) (Or.inl ⟨by kernel_rfl, by (intro w _; go_simp; try with_reducible rfl)⟩) (fun _ => hS) ?_
      (try simp only [List.getElem_toArray, List.getElem_cons_zero, List.getElem_cons_succ])
      (try go_frame)
      refine g_take (i := 12) (v := va1) rfl (by kernel_rfl) (by kernel_rfl) (by kernel_rfl) (by kernel_rfl) (fun _ _ _ h => h) (Or.inl ⟨by kernel_rfl, by (intro w hSw; (try dsimp only at hSw); obtain ⟨z0, z1⟩ := hSw; go_simp; try with_reducible rfl)⟩) hS ?_
      (try simp only [List.getElem_toArray, List.getElem_cons_zero, List.getElem_cons_succ])
      (try go_frame)
      refine g_take0 (i := 13) rfl (by kernel_rfl) (by kernel_rfl) (by kernel_rfl) (by decide) (fun _ _ _ h => h) (Or.inl ⟨by kernel_rfl, by (intro w _; go_simp; try with_reducible rfl)⟩) (fun _ => hS) ?_
      (try simp only [List.getElem_toArray, List.getElem_cons_zero, List.getElem_cons_succ])
      (try go_frame)
      refine g_two (i := 7) (j := 14) (by kernel_rfl) rfl rfl ?_ ?_
      · skip
        go_wp2_with fail
        obtain ⟨W1, hW1⟩ : ∃ W', Wd.alloc (.cells #[.string ⟨tx.toArray⟩] 9 (0, 0)) = W' := ⟨_, rfl⟩
        have uW1 : Upd (fun _ => False) Wd W1 := by rw [← hW1]; exact (Upd.refl _ _).alloc _
        have b7 : W1.heap[Wd.heap.size]? = some (.cells #[.string ⟨tx.toArray⟩] 9 (0, 0)) := by rw [← hW1]; exact heap_alloc_new
        have R1 := hid (R0.out.upd0 (heap_lt HX.out) uW1)
        rw [hW1]
        clear hW1 uW1
        first | (refine ⟨fun _ => CL.out W1 R1.out.hx, ?_⟩) | (refine ⟨CL.out W1 R1.out.hx, ?_⟩)
        (try simp only [List.getElem_toArray, List.getElem_cons_zero, List.getElem_cons_succ])
        (try go_frame)
        refine g_two (i := 8) (j := 14) (by kernel_rfl) rfl rfl ?_ ?_
        · skip
          obtain ⟨a8, c8, W2, r8, rr8, k8⟩ := R1.out.app1 HX.out tx HLN.out.1 50 b7
          have R2 := hid rr8; have K8 := hid k8
          clear rr8 k8
          (try simp only [List.getElem_toArray, List.getElem_cons_zero, List.getElem_cons_succ])
          (try go_frame)
          refine wpList_append_run rfl _ _ _ _ rfl rfl rfl r8 ?_
          go_wp2_with fail
          clear r8
          first | (refine ⟨fun _ => CL.out W2 R2.out.hx, ?_⟩) | (refine ⟨CL.out W2 R2.out.hx, ?_⟩)
          (try simp only [List.getElem_toArray, List.getElem_cons_zero, List.getElem_cons_succ])
          (try go_frame)
          refine g_op (i := 14) (by kernel_rfl) rfl ?_
          go_wp2_with fail
          obtain ⟨W3, hW3⟩ : ∃ W', W2.alloc (.cells #[.int .i64 (a1 : Int)] 3 (0, 0)) = W' := ⟨_, rfl⟩
          have uW3 : Upd (fun _ => False) W2 W3 := by rw [← hW3]; exact (Upd.refl _ _).alloc _
          have b14 : W3.heap[W2.heap.size]? = some (.cells #[.int .i64 (a1 : Int)] 3 (0, 0)) := by rw [← hW3]; exact heap_alloc_new
          have R3 := hid (R2.out.upd0 (heap_lt HX.out) uW3)
          rw [hW3]
          clear hW3 uW3
          first | (refine ⟨fun _ => CL.out W3 R3.out.hx, ?_⟩) | (refine ⟨CL.out W3 R3.out.hx, ?_⟩)
          (try simp only [List.getElem_toArray, List.getElem_cons_zero, List.getElem_cons_succ])
          (try go_frame)
          refine g_op (i := 15) (by kernel_rfl) rfl ?_
          obtain ⟨a15, c15, W4, r15, rr15⟩ := R3.out.app2 HX.out a1 HLN.out.2 51 b14
          have R4 := hid rr15
          clear rr15
          (try simp only [List.getElem_toArray, List.getElem_cons_zero, List.getElem_cons_succ])
          (try go_frame)
          refine wpList_append_run rfl _ _ _ _ rfl rfl rfl r15 ?_
          go_wp2_with fail
          clear r15
          refine ⟨fun h => (Bool.false_ne_true (h.symm.trans (by kernel_rfl))).elim, ?_⟩
          (try simp only [List.getElem_toArray, List.getElem_cons_zero, List.getElem_cons_succ])
          (try go_frame)
          have z5 := (CL.out W4 R4.out.hx).1
          have z6 := (CL.out W4 R4.out.hx).2
          have zf : ∀ o, W4.frozen? ⟨x, o, none⟩ = false := fun o => frozen_of_block (R4.out.hx.trans HX.out)
          have R4 := R4.out
          refine g_take0 (i := 16) rfl (by kernel_rfl) (by kernel_rfl) (by kernel_rfl) (by decide) (fun _ _ _ h => h) (Or.inl ⟨by kernel_rfl, by (intro w _; go_simp; try with_reducible rfl)⟩) ((fun h => (Bool.false_ne_true (h.symm.trans (by kernel_rfl))).elim)) ?_
          (try simp only [List.getElem_toArray, List.getElem_cons_zero, List.getElem_cons_succ])
          (try go_frame)
          refine g_take0 (i := 17) rfl (by kernel_rfl) (by kernel_rfl) (by kernel_rfl) (by decide) (fun _ _ _ h => h) (Or.inl ⟨by kernel_rfl, by (intro w _; go_simp; try with_reducible rfl)⟩) ((fun h => (Bool.false_ne_true (h.symm.trans (by kernel_rfl))).elim)) ?_
          (try simp only [List.getElem_toArray, List.getElem_cons_zero, List.getElem_cons_succ])
          (try go_frame)
          refine g_op (i := 18) (by kernel_rfl) rfl ?_
          go_wp2_with fail
          refine ⟨fun h => (Bool.false_ne_true (h.symm.trans (by kernel_rfl))).elim, ?_⟩
          (try simp only [List.getElem_toArray, List.getElem_cons_zero, List.getElem_cons_succ])
          (try go_frame)
          refine g_take0 (i := 19) rfl (by kernel_rfl) (by kernel_rfl) (by kernel_rfl) (by decide) (fun _ _ _ h => h) (Or.inl ⟨by kernel_rfl, by (intro w _; go_simp; try with_reducible rfl)⟩) ((fun h => (Bool.false_ne_true (h.symm.trans (by kernel_rfl))).elim)) ?_
          (try simp only [List.getElem_toArray, List.getElem_cons_zero, List.getElem_cons_succ])
          (try go_frame)
          refine g_take0 (i := 20) rfl (by kernel_rfl) (by kernel_rfl) (by kernel_rfl) (by decide) (fun _ _ _ h => h) (Or.inl ⟨by kernel_rfl, by (intro w _; go_simp; try with_reducible rfl)⟩) ((fun h => (Bool.false_ne_true (h.symm.trans (by kernel_rfl))).elim)) ?_
          (try simp only [List.getElem_toArray, List.getElem_cons_zero, List.getElem_cons_succ])
          (try go_frame)
          refine g_op (i := 21) (by kernel_rfl) rfl ?_
          go_wp2_with fail
          refine ⟨fun h => (Bool.false_ne_true (h.symm.trans (by kernel_rfl))).elim, ?_⟩
          (try simp only [List.getElem_toArray, List.getElem_cons_zero, List.getElem_cons_succ])
          (try go_frame)
          clear z5 z6 zf
          refine g_done (by kernel_rfl) ?_
          obtain ⟨⟨O2, st2, ho2⟩, s2⟩ := R4.stored SW.out
          have CAN := hid (ColAt.more (c := c) (x := x) (p := p) (q := q) (F := F) (S := S) (c' := ⟨-1, a1, tx, c.recs ++ [tx], c.ats ++ [a1]⟩) HO1.out SOW.out ⟨⟨O2, _, _, st2, ho2⟩, s2⟩)
          clear R4 st2 ho2 s2
          go_wp2_with fail
          go_roundg (L.length - (k + 1))
          case measure => have := HG.out; omega
          case rel => exact ⟨k + 1, _, STEP.out.trans F2.out, hkl, rfl, by go_num, rfl, rfl, rfl, CAN.out⟩
        · skip
          go_wp2_with fail
          obtain ⟨W2, hW2⟩ : ∃ W', W1.alloc (.cells #[.int .i64 (a1 : Int)] 3 (0, 0)) = W' := ⟨_, rfl⟩
          have uW2 : Upd (fun _ => False) W1 W2 := by rw [← hW2]; exact (Upd.refl _ _).alloc _
          have b14 : W2.heap[W1.heap.size]? = some (.cells #[.int .i64 (a1 : Int)] 3 (0, 0)) := by rw [← hW2]; exact heap_alloc_new
          have R2 := hid (R1.out.upd0 (heap_lt HX.out) uW2)
          have b7 := (uW2.block _ (heap_lt b7) id).trans b7
          rw [hW2]
          clear hW2 uW2
          first | (refine ⟨fun _ => CL.out W2 R2.out.hx, ?_⟩) | (refine ⟨CL.out W2 R2.out.hx, ?_⟩)
          (try simp only [List.getElem_toArray, List.getElem_cons_zero, List.getElem_cons_succ])
          (try go_frame)
          refine g_op (i := 8) (by kernel_rfl) rfl ?_
          obtain ⟨a8, c8, W3, r8, rr8, k8⟩ := R2.out.app1 HX.out tx HLN.out.1 50 b7
          have R3 := hid rr8; have K8 := hid k8
          clear rr8 k8
          have b14 := K8.out _ _ b14
          (try simp only [List.getElem_toArray, List.getElem_cons_zero, List.getElem_cons_succ])
          (try go_frame)
          refine wpList_append_run rfl _ _ _ _ rfl rfl rfl r8 ?_
          go_wp2_with fail
          clear r8
          first | (refine ⟨fun _ => CL.out W3 R3.out.hx, ?_⟩) | (refine ⟨CL.out W3 R3.out.hx, ?_⟩)
          (try simp only [List.getElem_toArray, List.getElem_cons_zero, List.getElem_cons_succ])
          (try go_frame)
          refine g_op (i := 15) (by kernel_rfl) rfl ?_
          obtain ⟨a15, c15, W4, r15, rr15⟩ := R3.out.app2 HX.out a1 HLN.out.2 51 b14
          have R4 := hid rr15
          clear rr15
          (try simp only [List.getElem_toArray, List.getElem_cons_zero, List.getElem_cons_succ])
          (try go_frame)
          refine wpList_append_run rfl _ _ _ _ rfl rfl rfl r15 ?_
          go_wp2_with fail
          clear r15
          refine ⟨fun h => (Bool.false_ne_true (h.symm.trans (by kernel_rfl))).elim, ?_⟩
          (try simp only [List.getElem_toArray, List.getElem_cons_zero, List.getElem_cons_succ])
          (try go_frame)
          have z5 := (CL.out W4 R4.out.hx).1
          have z6 := (CL.out W4 R4.out.hx).2
          have zf : ∀ o, W4.frozen? ⟨x, o, none⟩ = false := fun o => frozen_of_block (R4.out.hx.trans HX.out)
          have R4 := R4.out
          refine g_take0 (i := 16) rfl (by kernel_rfl) (by kernel_rfl) (by kernel_rfl) (by decide) (fun _ _ _ h => h) (Or.inl ⟨by kernel_rfl, by (intro w _; go_simp; try with_reducible rfl)⟩) ((fun h => (Bool.false_ne_true (h.symm.trans (by kernel_rfl))).elim)) ?_
          (try simp only [List.getElem_toArray, List.getElem_cons_zero, List.getElem_cons_succ])
          (try go_frame)
          refine g_take0 (i := 17) rfl (by kernel_rfl) (by kernel_rfl) (by kernel_rfl) (by decide) (fun _ _ _ h => h) (Or.inl ⟨by kernel_rfl, by (intro w _; go_simp; try with_reducible rfl)⟩) ((fun h => (Bool.false_ne_true (h.symm.trans (by kernel_rfl))).elim)) ?_
          (try simp only [List.getElem_toArray, List.getElem_cons_zero, List.getElem_cons_succ])
          (try go_frame)
          refine g_op (i := 18) (by kernel_rfl) rfl ?_
          go_wp2_with fail
          refine ⟨fun h => (Bool.false_ne_true (h.symm.trans (by kernel_rfl))).elim, ?_⟩
          (try simp only [List.getElem_toArray, List.getElem_cons_zero, List.getElem_cons_succ])
          (try go_frame)
          refine g_take0 (i := 19) rfl (by kernel_rfl) (by kernel_rfl) (by kernel_rfl) (by decide) (fun _ _ _ h => h) (Or.inl ⟨by kernel_rfl, by (intro w _; go_simp; try with_reducible rfl)⟩) ((fun h => (Bool.false_ne_true (h.symm.trans (by kernel_rfl))).elim)) ?_
          (try simp only [List.getElem_toArray, List.getElem_cons_zero, List.getElem_cons_succ])
          (try go_frame)
          refine g_take0 (i := 20) rfl (by kernel_rfl) (by kernel_rfl) (by kernel_rfl) (by decide) (fun _ _ _ h => h) (Or.inl ⟨by kernel_rfl, by (intro w _; go_simp; try with_reducible rfl)⟩) ((fun h => (Bool.false_ne_true (h.symm.trans (by kernel_rfl))).elim)) ?_
          (try simp only [List.getElem_toArray, List.getElem_cons_zero, List.getElem_cons_succ])
          (try go_frame)
          refine g_op (i := 21) (by kernel_rfl) rfl ?_
          go_wp2_with fail
          refine ⟨fun h => (Bool.false_ne_true (h.symm.trans (by kernel_rfl))).elim, ?_⟩
          (try simp only [List.getElem_toArray, List.getElem_cons_zero, List.getElem_cons_succ])
          (try go_frame)
          clear z5 z6 zf
          refine g_done (by kernel_rfl) ?_
          obtain ⟨⟨O2, st2, ho2⟩, s2⟩ := R4.stored SW.out
          have CAN := hid (ColAt.more (c := c) (x := x) (p := p) (q := q) (F := F) (S := S) (c' := ⟨-1, a1, tx, c.recs ++ [tx], c.ats ++ [a1]⟩) HO1.out SOW.out ⟨⟨O2, _, _, st2, ho2⟩, s2⟩)
          clear R4 st2 ho2 s2
          go_wp2_with fail
          go_roundg (L.length - (k + 1))
          case measure => have := HG.out; omega
          case rel => exact ⟨k + 1, _, STEP.out.trans F2.out, hkl, rfl, by go_num, rfl, rfl, rfl, CAN.out⟩
      · skip
        go_wp2_with fail
        obtain ⟨W1, hW1⟩ : ∃ W', Wd.alloc (.cells #[.int .i64 (a1 : Int)] 3 (0, 0)) = W' := ⟨_, rfl⟩
        have uW1 : Upd (fun _ => False) Wd W1 := by rw [← hW1]; exact (Upd.refl _ _).alloc _
        have b14 : W1.heap[Wd.heap.size]? = some (.cells #[.int .i64 (a1 : Int)] 3 (0, 0)) := by rw [← hW1]; exact heap_alloc_new
        have R1 := hid (R0.out.upd0 (heap_lt HX.out) uW1)
        rw [hW1]
        clear hW1 uW1
        first | (refine ⟨fun _ => CL.out W1 R1.out.hx, ?_⟩) | (refine ⟨CL.out W1 R1.out.hx, ?_⟩)
        (try simp only [List.getElem_toArray, List.getElem_cons_zero, List.getElem_cons_succ])
        (try go_frame)
        refine g_op (i := 7) (by kernel_rfl) rfl ?_
        go_wp2_with fail
        obtain ⟨W2, hW2⟩ : ∃ W', W1.alloc (.cells #[.string ⟨tx.toArray⟩] 9 (0, 0)) = W' := ⟨_, rfl⟩
        have uW2 : Upd (fun _ => False) W1 W2 := by rw [← hW2]; exact (Upd.refl _ _).alloc _
        have b7 : W2.heap[W1.heap.size]? = some (.cells #[.string ⟨tx.toArray⟩] 9 (0, 0)) := by rw [← hW2]; exact heap_alloc_new
        have R2 := hid (R1.out.upd0 (heap_lt HX.out) uW2)
        have b14 := (uW2.block _ (heap_lt b14) id).trans b14
        rw [hW2]
        clear hW2 uW2
        first | (refine ⟨fun _ => CL.out W2 R2.out.hx, ?_⟩) | (refine ⟨CL.out W2 R2.out.hx, ?_⟩)
        (try simp only [List.getElem_toArray, List.getElem_cons_zero, List.getElem_cons_succ])
        (try go_frame)
        refine g_op (i := 8) (by kernel_rfl) rfl ?_
        obtain ⟨a8, c8, W3, r8, rr8, k8⟩ := R2.out.app1 HX.out tx HLN.out.1 50 b7
        have R3 := hid rr8; have K8 := hid k8
        clear rr8 k8
        have b14 := K8.out _ _ b14
        (try simp only [List.getElem_toArray, List.getElem_cons_zero, List.getElem_cons_succ])
        (try go_frame)
        refine wpList_append_run rfl _ _ _ _ rfl rfl rfl r8 ?_
        go_wp2_with fail
        clear r8
        first | (refine ⟨fun _ => CL.out W3 R3.out.hx, ?_⟩) | (refine ⟨CL.out W3 R3.out.hx, ?_⟩)
        (try simp only [List.getElem_toArray, List.getElem_cons_zero, List.getElem_cons_succ])
        (try go_frame)
        refine g_op (i := 15) (by kernel_rfl) rfl ?_
        obtain ⟨a15, c15, W4, r15, rr15⟩ := R3.out.app2 HX.out a1 HLN.out.2 51 b14
        have R4 := hid rr15
        clear rr15
        (try simp only [List.getElem_toArray, List.getElem_cons_zero, List.getElem_cons_succ])
        (try go_frame)
        refine wpList_append_run rfl _ _ _ _ rfl rfl rfl r15 ?_
        go_wp2_with fail
        clear r15
        refine ⟨fun h => (Bool.false_ne_true (h.symm.trans (by kernel_rfl))).elim, ?_⟩
        (try simp only [List.getElem_toArray, List.getElem_cons_zero, List.getElem_cons_succ])
        (try go_frame)
        have z5 := (CL.out W4 R4.out.hx).1
        have z6 := (CL.out W4 R4.out.hx).2
        have zf : ∀ o, W4.frozen? ⟨x, o, none⟩ = false := fun o => frozen_of_block (R4.out.hx.trans HX.out)
        have R4 := R4.out
        refine g_take0 (i := 16) rfl (by kernel_rfl) (by kernel_rfl) (by kernel_rfl) (by decide) (fun _ _ _ h => h) (Or.inl ⟨by kernel_rfl, by (intro w _; go_simp; try with_reducible rfl)⟩) ((fun h => (Bool.false_ne_true (h.symm.trans (by kernel_rfl))).elim)) ?_
        (try simp only [List.getElem_toArray, List.getElem_cons_zero, List.getElem_cons_succ])
        (try go_frame)
        refine g_take0 (i := 17) rfl (by kernel_rfl) (by kernel_rfl) (by kernel_rfl) (by decide) (fun _ _ _ h => h) (Or.inl ⟨by kernel_rfl, by (intro w _; go_simp; try with_reducible rfl)⟩) ((fun h => (Bool.false_ne_true (h.symm.trans (by kernel_rfl))).elim)) ?_
        (try simp only [List.getElem_toArray, List.getElem_cons_zero, List.getElem_cons_succ])
        (try go_frame)
        refine g_op (i := 18) (by kernel_rfl) rfl ?_
        go_wp2_with fail
        refine ⟨fun h => (Bool.false_ne_true (h.symm.trans (by kernel_rfl))).elim, ?_⟩
        (try simp only [List.getElem_toArray, List.getElem_cons_zero, List.getElem_cons_succ])
        (try go_frame)
        refine g_take0 (i := 19) rfl (by kernel_rfl) (by kernel_rfl) (by kernel_rfl) (by decide) (fun _ _ _ h => h) (Or.inl ⟨by kernel_rfl, by (intro w _; go_simp; try with_reducible rfl)⟩) ((fun h => (Bool.false_ne_true (h.symm.trans (by kernel_rfl))).elim)) ?_
        (try simp only [List.getElem_toArray, List.getElem_cons_zero, List.getElem_cons_succ])
        (try go_frame)
        refine g_take0 (i := 20) rfl (by kernel_rfl) (by kernel_rfl) (by kernel_rfl) (by decide) (fun _ _ _ h => h) (Or.inl ⟨by kernel_rfl, by (intro w _; go_simp; try with_reducible rfl)⟩) ((fun h => (Bool.false_ne_true (h.symm.trans (by kernel_rfl))).elim)) ?_
        (try simp only [List.getElem_toArray, List.getElem_cons_zero, List.getElem_cons_succ])
        (try go_frame)
        refine g_op (i := 21) (by kernel_rfl) rfl ?_
        go_wp2_with fail
        refine ⟨fun h => (Bool.false_ne_true (h.symm.trans (by kernel_rfl))).elim, ?_⟩
        (try simp only [List.getElem_toArray, List.getElem_cons_zero, List.getElem_cons_succ])
        (try go_frame)
        clear z5 z6 zf
        refine g_done (by kernel_rfl) ?_
        obtain ⟨⟨O2, st2, ho2⟩, s2⟩ := R4.stored SW.out
        have CAN := hid (ColAt.more (c := c) (x := x) (p := p) (q := q) (F := F) (S := S) (c' := ⟨-1, a1, tx, c.recs ++ [tx], c.ats ++ [a1]⟩) HO1.out SOW.out ⟨⟨O2, _, _, st2, ho2⟩, s2⟩)
        clear R4 st2 ho2 s2
        go_wp2_with fail
        go_roundg (L.length - (k + 1))
        case measure => have := HG.out; omega
        case rel => exact ⟨k + 1, _, STEP.out.trans F2.out, hkl, rfl, by go_num, rfl, rfl, rfl, CAN.out⟩
    have g2 : (off == 0) = false := beq_eq_false_iff_ne.2 h2
    have h2n := hid (show pg.offset ≠ 0 by intro e; apply h2; rw [HOFF.out, e]; rfl)
    by_cases h3 : nm = c.number
    case neg =>
      have g3 : (nm == c.number) = false := beq_eq_false_iff_ne.2 h3
      have SAME := hid (show stepC S.first c pg = c from stepC_number h2n.out (by rw [← HNM.out]; exact h3))
      go_wp2_with fail
      go_roundg (L.length - (k + 1))
      case measure => have := HG.out; omega
      case rel => exact ⟨k + 1, _, STEP.out.trans SAME.out, hkl, rfl, by go_num, rfl, rfl, rfl, ⟨⟨O', vr1, va1, ST2.out, HO1.out⟩, SO2.out⟩⟩
    by_cases h4 : off = (c.text.length : Int)
    case neg =>
      have g3 : (nm == c.number) = true := beq_iff_eq.2 h3
      have g4 : (off == (c.text.length : Int)) = false := beq_eq_false_iff_ne.2 h4
      have SAME := hid (show stepC S.first c pg = c from stepC_offset h2n.out (by intro e; apply h4; rw [HOFF.out, e]))
      go_wp2_with fail
      go_roundg (L.length - (k + 1))
      case measure => have := HG.out; omega
      case rel => exact ⟨k + 1, _, STEP.out.trans SAME.out, hkl, rfl, by go_num, rfl, rfl, rfl, ⟨⟨O', vr1, va1, ST2.out, HO1.out⟩, SO2.out⟩⟩
    have g3 : (nm == c.number) = true := beq_iff_eq.2 h3
    have g4 : (off == (c.text.length : Int)) = true := beq_iff_eq.2 h4
    have F1 := hid (show stepC S.first c pg = finC S.first ⟨c.number, c.at_, c.text ++ pg.bytes, c.recs, c.ats⟩ pg from stepC_on (by have := HKD.out; omega) h2n.out (by rw [← HNM.out]; exact h3) (by have := HOFF.out; omega))
    have BT := hid (show (c.text ++ pg.bytes).length ≤ 1000000 by have h1 := GOOD.out.bytes; have h2 := OK.out.text; have h3 := HN.out; rw [List.length_append]; omega)
    have BN := hid (show (-1 : Int) ≤ c.number ∧ c.number ≤ 1000000 from OK.out.num)
    have BA := hid (show c.at_ ≤ 1000000 from OK.out.at_)
    have hadd := add_lists c.text pg.bytes (by have := BT.out; rw [List.length_append] at this; omega)
    have btl : (c.text.length : Int) ≤ 1000000 := by have h2 := OK.out.text; have h3 := HN.out; omega
    go_upto_region 9 with (fail)
    clear hadd btl g2 g3 g4 h2 h3 h4 h2n p0 p1 p2 p3 p6
    have LT := hid (show ((c.text ++ pg.bytes)).length = (c.text ++ pg.bytes).length from rfl)
    obtain ⟨tx, htx⟩ : ∃ tx, (c.text ++ pg.bytes) = tx := ⟨_, rfl⟩
    rw [htx] at F1 BT ⊢
    clear htx LT
    obtain ⟨n1, hn1⟩ : ∃ z : Int, c.number = z := ⟨_, rfl⟩
    rw [hn1] at F1 BN ⊢
    clear hn1
    obtain ⟨a1, ha1⟩ : ∃ z : Nat, c.at_ = z := ⟨_, rfl⟩
    rw [ha1] at F1 BA ⊢
    clear ha1
    have bt : (tx.length : Int) ≤ 1000000 := by have := BT.out; omega
    have bo : off + rs ≤ 2000000 := by omega
    go_upto_region 9 with (fail)
    by_cases hE : (tx.length : Int) = off + rs
    case neg =>
      have hEb : ((tx.length : Int) == off + rs) = false := beq_eq_false_iff_ne.2 hE
      have F2 := hid (F1.out.trans (finC_more (by intro e; apply hE; have e : tx.length = pg.offset + pg.rest := e; have h1 := HOFF.out; have h2 := HRS.out; omega)))
      go_wp2_with fail
      go_roundg (L.length - (k + 1))
      case measure => have := HG.out; omega
      case rel => exact ⟨k + 1, _, STEP.out.trans F2.out, hkl, rfl, by go_num, rfl, rfl, rfl, ⟨⟨O', vr1, va1, ST2.out, HO1.out⟩, SO2.out⟩⟩
    have hEb : ((tx.length : Int) == off + rs) = true := beq_iff_eq.2 hE
    have hEn := hid (show tx.length = pg.offset + pg.rest by have h1 := HOFF.out; have h2 := HRS.out; omega)
    obtain ⟨⟨c0, c1, c2, c3, c4, c5, c6⟩, hf⟩ := ST2.out.cells
    obtain ⟨ar, cr, rfl, hr1, hr2⟩ := ST2.out.recs.fits
    dsimp only at c3 c4 c5 c6 hr1 hr2
    have hrl := OK.out.recs
    have b3 : (S.first : Int) + c.recs.length ≤ 2000000 := by have := HN.out; omega
    clear hrl
    by_cases hF : n1 = (S.first : Int) + c.recs.length
    case neg =>
      have hFb : (n1 == (S.first : Int) + c.recs.length) = false := beq_eq_false_iff_ne.2 hF
      have F2 := hid (F1.out.trans (finC_lost hEn.out (by intro e; apply hF; dsimp only at e; rw [e]; exact Int.natCast_add _ _)))
      go_upto_region 10 with (fail)
      clear hE hF hEb
      go_quiet (fail)
      go_wp2_with fail
      go_roundg (L.length - (k + 1))
      case measure => have := HG.out; omega
      case rel => exact ⟨k + 1, _, STEP.out.trans F2.out, hkl, rfl, by go_num, rfl, rfl, rfl, ⟨⟨O', _, va1, ST2.out.upd0 ((Upd.refl _ _).drewN _), HO1.out⟩, SO2.out.then0 ((Upd.refl _ _).drewN _)⟩⟩
    have hFb : (n1 == (S.first : Int) + c.recs.length) = true := beq_iff_eq.2 hF
    have F2 := hid (F1.out.trans (finC_done hEn.out (by dsimp only; rw [hF]; exact (Int.natCast_add _ _).symm)))
    go_upto_region 10 with (fail)
    clear hE hEb
    go_quiet (fail)
    go_upto_region 11 with (fail)
    obtain ⟨W, hW⟩ : ∃ W, wa.drewN nq = W := ⟨_, rfl⟩
    have SW := hid (show StoreAt W O' x p q F { S with recs := c.recs, ats := c.ats } (.slice ar c.recs.length cr) va1 by rw [← hW]; exact ST2.out.upd0 ((Upd.refl _ _).drewN _))
    have SOW := hid (show Sto O w W by rw [← hW]; exact SO2.out.then0 ((Upd.refl _ _).drewN _))
    have HLN := hid (show c.recs.length + 1 ≤ 1000000 ∧ c.ats.length + 1 ≤ 1000000 by have h1 := OK.out.recs; have h2 := OK.out.same; have h3 := HN.out; omega)
    rw [hW]
    clear hW c0 c1 c2 c3 c4 c5 c6 hf p4 p5 ST2 SO2 hF hFb b3
    have HX := hid SW.out.head
    have CL := hid (fun (w' : World) (e : w'.heap[x]? = W.heap[x]?) => SW.out.cells_of e)
    refine wp_region_g (fun w' => w'.cell? ⟨x, 5, none⟩ = some (.slice ar c.recs.length cr) ∧ w'.cell? ⟨x, 6, none⟩ = some va1) 15 (by kernel_rfl) ?_
    obtain ⟨Wd, hWd⟩ : ∃ Wd, W.drew = Wd := ⟨_, rfl⟩
    have uWd : Upd (fun _ => False) W Wd := by rw [← hWd]; exact (Upd.refl _ _).drew
    have R0 := hid (SW.out.rowsOf.upd0 (heap_lt SW.out.head) uWd)
    rw [hWd]
    clear hWd uWd
    have hS := CL.out Wd R0.out.hx
    refine g_take0 (i := 0) rfl (by kernel_rfl) (by kernel_rfl) (by kernel_rfl) (by decide) (fun _ _ _ h => h) (Or.inl ⟨by kernel_rfl, by (intro w _; go_simp; try with_reducible rfl)⟩) (fun _ => hS) ?_
    (try simp only [List.getElem_toArray, List.getElem_cons_zero, List.getElem_cons_succ])
    (try go_frame)
    refine g_take0 (i := 1) rfl (by kernel_rfl) (by kernel_rfl) (by kernel_rfl) (by decide) (fun _ _ _ h => h) (Or.inl ⟨by kernel_rfl, by (intro w _; go_simp; try with_reducible rfl)⟩) (fun _ => hS) ?_
    (try simp only [List.getElem_toArray, List.getElem_cons_zero, List.getElem_cons_succ])
    (try go_frame)
    refine g_take0 (i := 2) rfl (by kernel_rfl) (by kernel_rfl) (by kernel_rfl) (by decide) (fun _ _ _ h => h) (Or.inl ⟨by kernel_rfl, by (intro w _; go_simp; try with_reducible rfl)⟩) (fun _ => hS) ?_
    (try simp only [List.getElem_toArray, List.getElem_cons_zero, List.getElem_cons_succ])
    (try go_frame)
    refine g_take0 (i := 3) rfl (by kernel_rfl) (by kernel_rfl) (by kernel_rfl) (by decide) (fun _ _ _ h => h) (Or.inl ⟨by kernel_rfl, by (intro w _; go_simp; try with_reducible rfl)⟩) (fun _ => hS) ?_
    (try simp only [List.getElem_toArray, List.getElem_cons_zero, List.getElem_cons_succ])
    (try go_frame)
    refine g_take0 (i := 4) rfl (by kernel_rfl) (by kernel_rfl) (by kernel_rfl) (by decide) (fun _ _ _ h => h) (Or.inl ⟨by kernel_rfl, by (intro w _; go_simp; try with_reducible rfl)⟩) (fun _ => hS) ?_
    (try simp only [List.getElem_toArray, List.getElem_cons_zero, List.getElem_cons_succ])
    (try go_frame)
    refine g_takeP [15, 8] (i := 5) (v := .slice ar c.recs.length cr) rfl (by kernel_rfl) (by kernel_rfl) (by kernel_rfl) (by kernel_rfl) (fun _ _ _ h => h) (Or.inl ⟨by kernel_rfl, by (intro w hSw; (try dsimp only at hSw); obtain ⟨z0, z1⟩ := hSw; go_simp; try with_reducible rfl)⟩) hS ?_
    (try simp only [List.getElem_toArray, List.getElem_cons_zero, List.getElem_cons_succ])
    (try go_frame)
    refine g_take0 (i := 6) rfl (by kernel_rfl) (by kernel_rfl) (by kernel_rfl) (by decide) (fun _ _ _ h => h) (Or.inl ⟨by kernel_rfl, by (intro w _; go_simp; try with_reducible rfl)⟩) (fun _ => hS) ?_
    (try simp only [List.getElem_toArray, List.getElem_cons_zero, List.getElem_cons_succ])
    (try go_frame)
    refine g_take0 (i := 9) rfl (by kernel_rfl) (by kernel_rfl) (by kernel_rfl) (by decide) (fun _ _ _ h => h) (Or.inl ⟨by kernel_rfl, by (intro w _; go_simp; try with_reducible rfl)⟩) (fun _ => hS) ?_
    (try simp only [List.getElem_toArray, List.getElem_cons_zero, List.getElem_cons_succ])
    (try go_frame)
    refine g_take0 (i := 10) rfl (by kernel_rfl) (by kernel_rfl) (by kernel_rfl) (by decide) (fun _ _ _ h => h) (Or.inl ⟨by kernel_rfl, by (intro w _; go_simp; try with_reducible rfl)⟩) (fun _ => hS) ?_
    (try simp only [List.getElem_toArray, List.getElem_cons_zero, List.getElem_cons_succ])
    (try go_frame)
    refine g_take0 (i := 11) rfl (by kernel_rfl) (by kernel_rfl) (by kernel_rfl) (by decide) (fun _ _ _ h => h) (Or.inl ⟨by kernel_rfl, by (intro w _; go_simp; try with_reducible rfl)⟩) (fun _ => hS) ?_
    (try simp only [List.getElem_toArray, List.getElem_cons_zero, List.getElem_cons_succ])
    (try go_frame)
    refine g_take (i := 12) (v := va1) rfl (by kernel_rfl) (by kernel_rfl) (by kernel_rfl) (by kernel_rfl) (fun _ _ _ h => h) (Or.inl ⟨by kernel_rfl, by (intro w hSw; (try dsimp only at hSw); obtain ⟨z0, z1⟩ := hSw; go_simp; try with_reducible rfl)⟩) hS ?_
    (try simp only [List.getElem_toArray, List.getElem_cons_zero, List.getElem_cons_succ])
    (try go_frame)
    refine g_take0 (i := 13) rfl (by kernel_rfl) (by kernel_rfl) (by kernel_rfl) (by decide) (fun _ _ _ h => h) (Or.inl ⟨by kernel_rfl, by (intro w _; go_simp; try with_reducible rfl)⟩) (fun _ => hS) ?_
    (try simp only [List.getElem_toArray, List.getElem_cons_zero, List.getElem_cons_succ])
    (try go_frame)
    refine g_two (i := 7) (j := 14) (by kernel_rfl) rfl rfl ?_ ?_
    · skip
      go_wp2_with fail
      obtain ⟨W1, hW1⟩ : ∃ W', Wd.alloc (.cells #[.string ⟨tx.toArray⟩] 9 (0, 0)) = W' := ⟨_, rfl⟩
      have uW1 : Upd (fun _ => False) Wd W1 := by rw [← hW1]; exact (Upd.refl _ _).alloc _
      have b7 : W1.heap[Wd.heap.size]? = some (.cells #[.string ⟨tx.toArray⟩] 9 (0, 0)) := by rw [← hW1]; exact heap_alloc_new
      have R1 := hid (R0.out.upd0 (heap_lt HX.out) uW1)
      rw [hW1]
      clear hW1 uW1
      first | (refine ⟨fun _ => CL.out W1 R1.out.hx, ?_⟩) | (refine ⟨CL.out W1 R1.out.hx, ?_⟩)
      (try simp only [List.getElem_toArray, List.getElem_cons_zero, List.getElem_cons_succ])
      (try go_frame)
      refine g_two (i := 8) (j := 14) (by kernel_rfl) rfl rfl ?_ ?_
      · skip
        obtain ⟨a8, c8, W2, r8, rr8, k8⟩ := R1.out.app1 HX.out tx HLN.out.1 50 b7
        have R2 := hid rr8; have K8 := hid k8
        clear rr8 k8
        (try simp only [List.getElem_toArray, List.getElem_cons_zero, List.getElem_cons_succ])
        (try go_frame)
        refine wpList_append_run rfl _ _ _ _ rfl rfl rfl r8 ?_
        go_wp2_with fail
        clear r8
        first | (refine ⟨fun _ => CL.out W2 R2.out.hx, ?_⟩) | (refine ⟨CL.out W2 R2.out.hx, ?_⟩)
        (try simp only [List.getElem_toArray, List.getElem_cons_zero, List.getElem_cons_succ])
        (try go_frame)
        refine g_op (i := 14) (by kernel_rfl) rfl ?_
        go_wp2_with fail
        obtain ⟨W3, hW3⟩ : ∃ W', W2.alloc (.cells #[.int .i64 (a1 : Int)] 3 (0, 0)) = W' := ⟨_, rfl⟩
        have uW3 : Upd (fun _ => False) W2 W3 := by rw [← hW3]; exact (Upd.refl _ _).alloc _
        have b14 : W3.heap[W2.heap.size]? = some (.cells #[.int .i64 (a1 : Int)] 3 (0, 0)) := by rw [← hW3]; exact heap_alloc_new
        have R3 := hid (R2.out.upd0 (heap_lt HX.out) uW3)
        rw [hW3]
        clear hW3 uW3
        first | (refine ⟨fun _ => CL.out W3 R3.out.hx, ?_⟩) | (refine ⟨CL.out W3 R3.out.hx, ?_⟩)
        (try simp only [List.getElem_toArray, List.getElem_cons_zero, List.getElem_cons_succ])
        (try go_frame)
        refine g_op (i := 15) (by kernel_rfl) rfl ?_
        obtain ⟨a15, c15, W4, r15, rr15⟩ := R3.out.app2 HX.out a1 HLN.out.2 51 b14
        have R4 := hid rr15
        clear rr15
        (try simp only [List.getElem_toArray, List.getElem_cons_zero, List.getElem_cons_succ])
        (try go_frame)
        refine wpList_append_run rfl _ _ _ _ rfl rfl rfl r15 ?_
        go_wp2_with fail
        clear r15
        refine ⟨fun h => (Bool.false_ne_true (h.symm.trans (by kernel_rfl))).elim, ?_⟩
        (try simp only [List.getElem_toArray, List.getElem_cons_zero, List.getElem_cons_succ])
        (try go_frame)
        have z5 := (CL.out W4 R4.out.hx).1
        have z6 := (CL.out W4 R4.out.hx).2
        have zf : ∀ o, W4.frozen? ⟨x, o, none⟩ = false := fun o => frozen_of_block (R4.out.hx.trans HX.out)
        have R4 := R4.out
        refine g_take0 (i := 16) rfl (by kernel_rfl) (by kernel_rfl) (by kernel_rfl) (by decide) (fun _ _ _ h => h) (Or.inl ⟨by kernel_rfl, by (intro w _; go_simp; try with_reducible rfl)⟩) ((fun h => (Bool.false_ne_true (h.symm.trans (by kernel_rfl))).elim)) ?_
        (try simp only [List.getElem_toArray, List.getElem_cons_zero, List.getElem_cons_succ])
        (try go_frame)
        refine g_take0 (i := 17) rfl (by kernel_rfl) (by kernel_rfl) (by kernel_rfl) (by decide) (fun _ _ _ h => h) (Or.inl ⟨by kernel_rfl, by (intro w _; go_simp; try with_reducible rfl)⟩) ((fun h => (Bool.false_ne_true (h.symm.trans (by kernel_rfl))).elim)) ?_
        (try simp only [List.getElem_toArray, List.getElem_cons_zero, List.getElem_cons_succ])
        (try go_frame)
        refine g_op (i := 18) (by kernel_rfl) rfl ?_
        go_wp2_with fail
        refine ⟨fun h => (Bool.false_ne_true (h.symm.trans (by kernel_rfl))).elim, ?_⟩
        (try simp only [List.getElem_toArray, List.getElem_cons_zero, List.getElem_cons_succ])
        (try go_frame)
        refine g_take0 (i := 19) rfl (by kernel_rfl) (by kernel_rfl) (by kernel_rfl) (by decide) (fun _ _ _ h => h) (Or.inl ⟨by kernel_rfl, by (intro w _; go_simp; try with_reducible rfl)⟩) ((fun h => (Bool.false_ne_true (h.symm.trans (by kernel_rfl))).elim)) ?_
        (try simp only [List.getElem_toArray, List.getElem_cons_zero, List.getElem_cons_succ])
        (try go_frame)
        refine g_take0 (i := 20) rfl (by kernel_rfl) (by kernel_rfl) (by kernel_rfl) (by decide) (fun _ _ _ h => h) (Or.inl ⟨by kernel_rfl, by (intro w _; go_simp; try with_reducible rfl)⟩) ((fun h => (Bool.false_ne_true (h.symm.trans (by kernel_rfl))).elim)) ?_
        (try simp only [List.getElem_toArray, List.getElem_cons_zero, List.getElem_cons_succ])
        (try go_frame)
        refine g_op (i := 21) (by kernel_rfl) rfl ?_
        go_wp2_with fail
        refine ⟨fun h => (Bool.false_ne_true (h.symm.trans (by kernel_rfl))).elim, ?_⟩
        (try simp only [List.getElem_toArray, List.getElem_cons_zero, List.getElem_cons_succ])
        (try go_frame)
        clear z5 z6 zf
        refine g_done (by kernel_rfl) ?_
        obtain ⟨⟨O2, st2, ho2⟩, s2⟩ := R4.stored SW.out
        have CAN := hid (ColAt.more (c := c) (x := x) (p := p) (q := q) (F := F) (S := S) (c' := ⟨-1, a1, tx, c.recs ++ [tx], c.ats ++ [a1]⟩) HO1.out SOW.out ⟨⟨O2, _, _, st2, ho2⟩, s2⟩)
        clear R4 st2 ho2 s2
        go_wp2_with fail
        go_roundg (L.length - (k + 1))
        case measure => have := HG.out; omega
        case rel => exact ⟨k + 1, _, STEP.out.trans F2.out, hkl, rfl, by go_num, rfl, rfl, rfl, CAN.out⟩
      · skip
        go_wp2_with fail
        obtain ⟨W2, hW2⟩ : ∃ W', W1.alloc (.cells #[.int .i64 (a1 : Int)] 3 (0, 0)) = W' := ⟨_, rfl⟩
        have uW2 : Upd (fun _ => False) W1 W2 := by rw [← hW2]; exact (Upd.refl _ _).alloc _
        have b14 : W2.heap[W1.heap.size]? = some (.cells #[.int .i64 (a1 : Int)] 3 (0, 0)) := by rw [← hW2]; exact heap_alloc_new
        have R2 := hid (R1.out.upd0 (heap_lt HX.out) uW2)
        have b7 := (uW2.block _ (heap_lt b7) id).trans b7
        rw [hW2]
        clear hW2 uW2
        first | (refine ⟨fun _ => CL.out W2 R2.out.hx, ?_⟩) | (refine ⟨CL.out W2 R2.out.hx, ?_⟩)
        (try simp only [List.getElem_toArray, List.getElem_cons_zero, List.getElem_cons_succ])
        (try go_frame)
        refine g_op (i := 8) (by kernel_rfl) rfl ?_
        obtain ⟨a8, c8, W3, r8, rr8, k8⟩ := R2.out.app1 HX.out tx HLN.out.1 50 b7
        have R3 := hid rr8; have K8 := hid k8
        clear rr8 k8
        have b14 := K8.out _ _ b14
        (try simp only [List.getElem_toArray, List.getElem_cons_zero, List.getElem_cons_succ])
        (try go_frame)
        refine wpList_append_run rfl _ _ _ _ rfl rfl rfl r8 ?_
        go_wp2_with fail
        clear r8
        first | (refine ⟨fun _ => CL.out W3 R3.out.hx, ?_⟩) | (refine ⟨CL.out W3 R3.out.hx, ?_⟩)
        (try simp only [List.getElem_toArray, List.getElem_cons_zero, List.getElem_cons_succ])
        (try go_frame)
        refine g_op (i := 15) (by kernel_rfl) rfl ?_
        obtain ⟨a15, c15, W4, r15, rr15⟩ := R3.out.app2 HX.out a1 HLN.out.2 51 b14
        have R4 := hid rr15
        clear rr15
        (try simp only [List.getElem_toArray, List.getElem_cons_zero, List.getElem_cons_succ])
        (try go_frame)
        refine wpList_append_run rfl _ _ _ _ rfl rfl rfl r15 ?_
        go_wp2_with fail
        clear r15
        refine ⟨fun h => (Bool.false_ne_true (h.symm.trans (by kernel_rfl))).elim, ?_⟩
        (try simp only [List.getElem_toArray, List.getElem_cons_zero, List.getElem_cons_succ])
        (try go_frame)
        have z5 := (CL.out W4 R4.out.hx).1
        have z6 := (CL.out W4 R4.out.hx).2
        have zf : ∀ o, W4.frozen? ⟨x, o, none⟩ = false := fun o => frozen_of_block (R4.out.hx.trans HX.out)
        have R4 := R4.out
        refine g_take0 (i := 16) rfl (by kernel_rfl) (by kernel_rfl) (by kernel_rfl) (by decide) (fun _ _ _ h => h) (Or.inl ⟨by kernel_rfl, by (intro w _; go_simp; try with_reducible rfl)⟩) ((fun h => (Bool.false_ne_true (h.symm.trans (by kernel_rfl))).elim)) ?_
        (try simp only [List.getElem_toArray, List.getElem_cons_zero, List.getElem_cons_succ])
        (try go_frame)
        refine g_take0 (i := 17) rfl (by kernel_rfl) (by kernel_rfl) (by kernel_rfl) (by decide) (fun _ _ _ h => h) (Or.inl ⟨by kernel_rfl, by (intro w _; go_simp; try with_reducible rfl)⟩) ((fun h => (Bool.false_ne_true (h.symm.trans (by kernel_rfl))).elim)) ?_
        (try simp only [List.getElem_toArray, List.getElem_cons_zero, List.getElem_cons_succ])
        (try go_frame)
        refine g_op (i := 18) (by kernel_rfl) rfl ?_
        go_wp2_with fail
        refine ⟨fun h => (Bool.false_ne_true (h.symm.trans (by kernel_rfl))).elim, ?_⟩
        (try simp only [List.getElem_toArray, List.getElem_cons_zero, List.getElem_cons_succ])
        (try go_frame)
        refine g_take0 (i := 19) rfl (by kernel_rfl) (by kernel_rfl) (by kernel_rfl) (by decide) (fun _ _ _ h => h) (Or.inl ⟨by kernel_rfl, by (intro w _; go_simp; try with_reducible rfl)⟩) ((fun h => (Bool.false_ne_true (h.symm.trans (by kernel_rfl))).elim)) ?_
        (try simp only [List.getElem_toArray, List.getElem_cons_zero, List.getElem_cons_succ])
        (try go_frame)
        refine g_take0 (i := 20) rfl (by kernel_rfl) (by kernel_rfl) (by kernel_rfl) (by decide) (fun _ _ _ h => h) (Or.inl ⟨by kernel_rfl, by (intro w _; go_simp; try with_reducible rfl)⟩) ((fun h => (Bool.false_ne_true (h.symm.trans (by kernel_rfl))).elim)) ?_
        (try simp only [List.getElem_toArray, List.getElem_cons_zero, List.getElem_cons_succ])
        (try go_frame)
        refine g_op (i := 21) (by kernel_rfl) rfl ?_
        go_wp2_with fail
        refine ⟨fun h => (Bool.false_ne_true (h.symm.trans (by kernel_rfl))).elim, ?_⟩
        (try simp only [List.getElem_toArray, List.getElem_cons_zero, List.getElem_cons_succ])
        (try go_frame)
        clear z5 z6 zf
        refine g_done (by kernel_rfl) ?_
        obtain ⟨⟨O2, st2, ho2⟩, s2⟩ := R4.stored SW.out
        have CAN := hid (ColAt.more (c := c) (x := x) (p := p) (q := q) (F := F) (S := S) (c' := ⟨-1, a1, tx, c.recs ++ [tx], c.ats ++ [a1]⟩) HO1.out SOW.out ⟨⟨O2, _, _, st2, ho2⟩, s2⟩)
        clear R4 st2 ho2 s2
        go_wp2_with fail
        go_roundg (L.length - (k + 1))
        case measure => have := HG.out; omega
        case rel => exact ⟨k + 1, _, STEP.out.trans F2.out, hkl, rfl, by go_num, rfl, rfl, rfl, CAN.out⟩
    · skip
      go_wp2_with fail
      obtain ⟨W1, hW1⟩ : ∃ W', Wd.alloc (.cells #[.int .i64 (a1 : Int)] 3 (0, 0)) = W' := ⟨_, rfl⟩
      have uW1 : Upd (fun _ => False) Wd W1 := by rw [← hW1]; exact (Upd.refl _ _).alloc _
      have b14 : W1.heap[Wd.heap.size]? = some (.cells #[.int .i64 (a1 : Int)] 3 (0, 0)) := by rw [← hW1]; exact heap_alloc_new
      have R1 := hid (R0.out.upd0 (heap_lt HX.out) uW1)
      rw [hW1]
      clear hW1 uW1
      first | (refine ⟨fun _ => CL.out W1 R1.out.hx, ?_⟩) | (refine ⟨CL.out W1 R1.out.hx, ?_⟩)
      (try simp only [List.getElem_toArray, List.getElem_cons_zero, List.getElem_cons_succ])
      (try go_frame)
      refine g_op (i := 7) (by kernel_rfl) rfl ?_
      go_wp2_with fail
      obtain ⟨W2, hW2⟩ : ∃ W', W1.alloc (.cells #[.string ⟨tx.toArray⟩] 9 (0, 0)) = W' := ⟨_, rfl⟩
      have uW2 : Upd (fun _ => False) W1 W2 := by rw [← hW2]; exact (Upd.refl _ _).alloc _
      have b7 : W2.heap[W1.heap.size]? = some (.cells #[.string ⟨tx.toArray⟩] 9 (0, 0)) := by rw [← hW2]; exact heap_alloc_new
      have R2 := hid (R1.out.upd0 (heap_lt HX.out) uW2)
      have b14 := (uW2.block _ (heap_lt b14) id).trans b14
      rw [hW2]
      clear hW2 uW2
      first | (refine ⟨fun _ => CL.out W2 R2.out.hx, ?_⟩) | (refine ⟨CL.out W2 R2.out.hx, ?_⟩)
      (try simp only [List.getElem_toArray, List.getElem_cons_zero, List.getElem_cons_succ])
      (try go_frame)
      refine g_op (i := 8) (by kernel_rfl) rfl ?_
      obtain ⟨a8, c8, W3, r8, rr8, k8⟩ := R2.out.app1 HX.out tx HLN.out.1 50 b7
      have R3 := hid rr8; have K8 := hid k8
      clear rr8 k8
      have b14 := K8.out _ _ b14
      (try simp only [List.getElem_toArray, List.getElem_cons_zero, List.getElem_cons_succ])
      (try go_frame)
      refine wpList_append_run rfl _ _ _ _ rfl rfl rfl r8 ?_
      go_wp2_with fail
      clear r8
      first | (refine ⟨fun _ => CL.out W3 R3.out.hx, ?_⟩) | (refine ⟨CL.out W3 R3.out.hx, ?_⟩)
      (try simp only [List.getElem_toArray, List.getElem_cons_zero, List.getElem_cons_succ])
      (try go_frame)
      refine g_op (i := 15) (by kernel_rfl) rfl ?_
      obtain ⟨a15, c15, W4, r15, rr15⟩ := R3.out.app2 HX.out a1 HLN.out.2 51 b14
      have R4 := hid rr15
      clear rr15
      (try simp only [List.getElem_toArray, List.getElem_cons_zero, List.getElem_cons_succ])
      (try go_frame)
      refine wpList_append_run rfl _ _ _ _ rfl rfl rfl r15 ?_
      go_wp2_with fail
      clear r15
      refine ⟨fun h => (Bool.false_ne_true (h.symm.trans (by kernel_rfl))).elim, ?_⟩
      (try simp only [List.getElem_toArray, List.getElem_cons_zero, List.getElem_cons_succ])
      (try go_frame)
      have z5 := (CL.out W4 R4.out.hx).1
      have z6 := (CL.out W4 R4.out.hx).2
      have zf : ∀ o, W4.frozen? ⟨x, o, none⟩ = false := fun o => frozen_of_block (R4.out.hx.trans HX.out)
      have R4 := R4.out
      refine g_take0 (i := 16) rfl (by kernel_rfl) (by kernel_rfl) (by kernel_rfl) (by decide) (fun _ _ _ h => h) (Or.inl ⟨by kernel_rfl, by (intro w _; go_simp; try with_reducible rfl)⟩) ((fun h => (Bool.false_ne_true (h.symm.trans (by kernel_rfl))).elim)) ?_
      (try simp only [List.getElem_toArray, List.getElem_cons_zero, List.getElem_cons_succ])
      (try go_frame)
      refine g_take0 (i := 17) rfl (by kernel_rfl) (by kernel_rfl) (by kernel_rfl) (by decide) (fun _ _ _ h => h) (Or.inl ⟨by kernel_rfl, by (intro w _; go_simp; try with_reducible rfl)⟩) ((fun h => (Bool.false_ne_true (h.symm.trans (by kernel_rfl))).elim)) ?_
      (try simp only [List.getElem_toArray, List.getElem_cons_zero, List.getElem_cons_succ])
      (try go_frame)
      refine g_op (i := 18) (by kernel_rfl) rfl ?_
      go_wp2_with fail
      refine ⟨fun h => (Bool.false_ne_true (h.symm.trans (by kernel_rfl))).elim, ?_⟩
      (try simp only [List.getElem_toArray, List.getElem_cons_zero, List.getElem_cons_succ])
      (try go_frame)
      refine g_take0 (i := 19) rfl (by kernel_rfl) (by kernel_rfl) (by kernel_rfl) (by decide) (fun _ _ _ h => h) (Or.inl ⟨by kernel_rfl, by (intro w _; go_simp; try with_reducible rfl)⟩) ((fun h => (Bool.false_ne_true (h.symm.trans (by kernel_rfl))).elim)) ?_
      (try simp only [List.getElem_toArray, List.getElem_cons_zero, List.getElem_cons_succ])
      (try go_frame)
      refine g_take0 (i := 20) rfl (by kernel_rfl) (by kernel_rfl) (by kernel_rfl) (by decide) (fun _ _ _ h => h) (Or.inl ⟨by kernel_rfl, by (intro w _; go_simp; try with_reducible rfl)⟩) ((fun h => (Bool.false_ne_true (h.symm.trans (by kernel_rfl))).elim)) ?_
      (try simp only [List.getElem_toArray, List.getElem_cons_zero, List.getElem_cons_succ])
      (try go_frame)
      refine g_op (i := 21) (by kernel_rfl) rfl ?_
      go_wp2_with fail
      refine ⟨fun h => (Bool.false_ne_true (h.symm.trans (by kernel_rfl))).elim, ?_⟩
      (try simp only [List.getElem_toArray, List.getElem_cons_zero, List.getElem_cons_succ])
      (try go_frame)
      clear z5 z6 zf
      refine g_done (by kernel_rfl) ?_
      obtain ⟨⟨O2, st2, ho2⟩, s2⟩ := R4.stored SW.out
      have CAN := hid (ColAt.more (c := c) (x := x) (p := p) (q := q) (F := F) (S := S) (c' := ⟨-1, a1, tx, c.recs ++ [tx], c.ats ++ [a1]⟩) HO1.out SOW.out ⟨⟨O2, _, _, st2, ho2⟩, s2⟩)
      clear R4 st2 ho2 s2
      go_wp2_with fail
      go_roundg (L.length - (k + 1))
      case measure => have := HG.out; omega
      case rel => exact ⟨k + 1, _, STEP.out.trans F2.out, hkl, rfl, by go_num, rfl, rfl, rfl, CAN.out⟩
end
end Go.Proofs.YtlefilfdomjkeaaGreatDoor
