/- Walk of the reference's store: the pieces of a record. -/
/- Walk of the reference's store: a record is appended. -/
/- Walk of the reference's store: records are dropped. -/
import Derived.Test.YtlefilfdomjkeaaGreatDoorRtJ
import Derived.Test.YtlefilfdomjkeaaGreatDoorStK
namespace Go.Proofs.YtlefilfdomjkeaaGreatDoor
open Go.RowKit Go.Deep
theorem rext_mid (l : List UInt8) (i k j : Nat) (hj : i + k = j) : (ByteArray.mk l.toArray).extract i j = ⟨((l.drop i).take k).toArray⟩ := by
  subst hj
  apply ByteArray.ext
  rw [ByteArray.data_extract]
  apply Array.toList_inj.1
  rw [Array.toList_extract, List.extract_eq_take_drop]
  simp
/-- Pieces l are made; the next one begins at byte f; n more may come. -/
structure PgsAt (S : St) (r : List UInt8) (l : List Pg) (n f : Nat) : Prop where
  all : recP S r = l ++ piecesP S r n l.length f
  le : f ≤ r.length
  near : l.length ≤ f ∨ r.length ≤ f
  fuel : f < r.length → r.length - f < n
  first : l.length = 0 → 0 < n
theorem pgsAt_zero (S : St) (r : List UInt8) : PgsAt S r [] (r.length + 1) 0 := ⟨rfl, Nat.zero_le _, .inl (Nat.zero_le _), fun _ => by omega, fun _ => by omega⟩
theorem PgsAt.done {S : St} {r : List UInt8} {l : List Pg} {n f : Nat} (h : PgsAt S r l n f) (h1 : ¬ f < r.length) (h2 : l.length ≠ 0) : recP S r = l := by
  have e : piecesP S r n l.length f = [] := by
    cases n with
    | zero => rfl
    | succ n => rw [piecesP, if_neg (by rintro (h | h); exact h1 h; exact h2 h)]
  rw [h.all, e]
  simp
theorem PgsAt.next {S : St} {r : List UInt8} {l : List Pg} {n f : Nat} (h : PgsAt S r l n f) (hs : S.Small r) (hc : f < r.length ∨ l.length = 0) :
    l.length ≤ f ∧ ∃ n', n = n' + 1 ∧ PgsAt S r (l ++ [pieceP S r l.length f]) n' (f + (pieceP S r l.length f).bytes.length) ∧ f + (pieceP S r l.length f).bytes.length ≤ r.length := by
  have hlf : l.length ≤ f := by rcases hc with hc | hc <;> rcases h.near with h | h <;> omega
  obtain ⟨_, e2⟩ := piece_len hs h.le hlf
  have hr := head_room hs h.le hlf
  have hn : 0 < n := by
    rcases hc with hc | hc
    · have := h.fuel hc; omega
    · exact h.first hc
  obtain ⟨n', rfl⟩ : ∃ n', n = n' + 1 := ⟨n - 1, by omega⟩
  have hle := h.le
  refine ⟨hlf, n', rfl, ⟨?_, by omega, ?_, ?_, ?_⟩, by omega⟩
  · rw [h.all, piecesP, if_pos hc, List.length_append]
    simp
  · rw [List.length_append]
    simp only [List.length_singleton]
    rcases hc with hc | hc <;> omega
  · intro h1
    rcases hc with hc | hc
    · have := h.fuel hc; omega
    · have := h.fuel (by omega); omega
  · intro h0
    simp at h0
theorem pgsAt_len {S : St} {r : List UInt8} {l : List Pg} {n f : Nat} (h : PgsAt S r l n f) (hs : S.Small r) : l.length * 16 ≤ r.length + 16 := by
  have h1 := congrArg List.length h.all
  have h2 := rec_count hs
  rw [List.length_append] at h1
  omega
section
variable {w : World} {O : Nat → Prop} {x p q : Nat} {g' : Nat → Nat} {F : Fl} {S : St} {vr va : Value}
set_option maxRecDepth 100000 in
set_option maxHeartbeats 4000000 in
theorem rpieces_any (h : RStAt w O x p q g' F S vr va) (ok : StOk S) (r : List UInt8) (hrl : r.length ≤ 4000) :
    Calls Tryz.prog 46 #[.pointer (some ⟨x, 0, none⟩), .string ⟨r.toArray⟩] w fun e w' => (∃ v, e = .returned v ∧ PRow w' w.heap.size v (recP S r)) ∧ Upd (fun _ => False) w w' := by
  have hrli : (r.length : Int) ≤ 4000 := by omega
  have H := hid h; have OK := hid ok; have HRL := hid hrl
  have SM := hid (show S.Small r from ⟨by have := OK.out.next; omega, by have := OK.out.len; omega⟩)
  obtain ⟨ar, cr, rfl, hr1, hr2⟩ := H.out.recs.fits
  have XL := hid (heap_lt H.out.head)
  have hrn : S.recs.length ≤ 900000 := by have := OK.out.len; unfold St.len at this; omega
  clear h ok hrl
  go_enter Tryz.func46, Tryz.ntmps46
  go_wp2_with fail
  go_loopg [5, 6] (r.length + 1) (fun gg s5 s6 wr => ∃ (l : List Pg) (a : Option Addr) (c f : Nat), s5 = .slice a l.length c ∧ s6 = .int .i64 f ∧ PgsAt S r l gg f ∧ PRow wr w.heap.size (.slice a l.length c) l ∧ Upd (fun _ => False) w wr)
  case atStart => exact ⟨[], none, 0, 0, rfl, rfl, pgsAt_zero S r, PRow.nil _ _, Upd.refl _ _⟩
  case round =>
    obtain ⟨l, a, c, f, rfl, rfl, hpa, hrow, u⟩ := hrel
    have PA := hid hpa; have ROW := hid hrow; have U := hid u
    have hll := pgsAt_len hpa SM.out
    obtain ⟨_, _, e0, hc1, hc2⟩ := hrow.fits
    injection e0 with e3 e4 e2
    rw [← e2] at hc1 hc2
    have hfl := hpa.le
    have hc2 : c ≤ 9223372036854775807 := hc2
    have hl5 : l.length ≤ 1000 := by have := HRL.out; omega
    have hli : (l.length : Int) ≤ 1000 := by omega
    have hfi : (f : Int) ≤ 4000 := by have := HRL.out; omega
    clear hpa hrow u hll e2 e3 e4
    by_cases hc1 : f < r.length
    case pos =>
      have hc1i : (f : Int) < r.length := by omega
      have hc := (show f < r.length ∨ l.length = 0 from .inl hc1)
      obtain ⟨hlf, n', rfl, hpn, hpl⟩ := PA.out.next SM.out hc
      obtain ⟨g1, g2⟩ := piece_len SM.out hfl hlf
      obtain ⟨rm, hrm⟩ : ∃ rm, (pieceP S r l.length f).bytes.length = rm := ⟨_, rfl⟩
      obtain ⟨ch, hch⟩ : ∃ ch, (pieceP S r l.length f).bytes = ch := ⟨_, rfl⟩
      obtain ⟨ps, hps⟩ : ∃ ps, S.next + l.length = ps := ⟨_, rfl⟩
      obtain ⟨rs, hrs⟩ : ∃ rs, r.length - f = rs := ⟨_, rfl⟩
      obtain ⟨sl, hsl⟩ : ∃ sl, S.len = sl := ⟨_, rfl⟩
      obtain ⟨t1, ht1⟩ : ∃ t1, f + rm = t1 := ⟨_, rfl⟩
      have hhead : headP S r l.length f = ⟨0, ps, sl, S.recs.length, f, rs, []⟩ := by unfold headP; rw [hps, hrs, hsl]
      have hpc : pieceP S r l.length f = ⟨0, ps, sl, S.recs.length, f, rs, ch⟩ := by rw [← hch]; show { headP S r l.length f with bytes := (pieceP S r l.length f).bytes } = _; rw [hhead]
      have hchd : (r.drop f).take rm = ch := by rw [← hch, ← hrm]; exact piece_take S r l.length f
      have hchl : ch.length = rm := by rw [← hch, hrm]
      rw [hrm] at g1 hpn hpl
      rw [hpc, ht1] at hpn
      rw [ht1] at hpl
      rw [hhead] at g1
      have hpi : PgI ⟨0, ps, sl, S.recs.length, f, rs, []⟩ := by
        have h1 := SM.out.next; have h2 := OK.out.len; have h3 : S.recs.length ≤ S.len := by unfold St.len; omega
        refine ⟨?_, ?_, ?_, ?_, ?_, ?_⟩ <;> unfold I64 <;> dsimp only <;> omega
      have HRM := hid (fun (wq : World) => (show Calls Tryz.prog 71 #[.agg #[.int .i64 0, .int .i64 ps, .int .i64 sl, .int .i64 S.recs.length, .int .i64 f, .int .i64 rs, .string ⟨#[]⟩]] wq fun e w' => e = .returned (.int .i64 (rm : Int)) ∧ Upd (fun _ => False) wq w' from by rw [g1]; exact qroom_any ⟨0, ps, sl, S.recs.length, f, rs, []⟩ hpi wq))
      have LC := hid (fun (wq : World) (u : Upd (fun _ => False) w wq) => (show Calls Tryz.prog 22 #[.pointer (some ⟨x, 0, none⟩)] wq fun e w' => e = .returned (.int .i64 (sl : Int)) ∧ Upd (fun _ => False) wq w' from by rw [← hsl]; exact rlen_any (H.out.upd0 u) OK.out))
      have hnx := SM.out.next
      have f1 : (S.next : Int) + l.length = ps := by omega
      have f2 : (r.length : Int) - f = rs := by omega
      have f3 : (f : Int) + rm = t1 := by omega
      have b1 : ps ≤ 1000000000 := by have := HRL.out; omega
      have b2 : rs ≤ 1000000000 := by have := HRL.out; omega
      have b3 : t1 ≤ 1000000000 := by have := HRL.out; omega
      have hf1 : f ≤ t1 := by omega
      have hf1i : (f : Int) ≤ t1 := by omega
      have ht1i : (t1 : Int) ≤ r.length := by omega
      have hext := rext_mid r f rm t1 ht1
      rw [hchd] at hext
      have PN := hid hpn; have HEXT := hid hext
      have CHL := hid hchl
      have F3 := hid f3
      have hll5 := hid (show l.length + 1 ≤ 1000000 by omega)
      clear g1 g2 hrm hch hps hrs hsl ht1 hhead hpc hchd hchl hpn hpi hnx hlf hext PA f3
      obtain ⟨w1a, w1b⟩ := wrap_nat b1
      obtain ⟨w2a, w2b⟩ := wrap_nat b2
      obtain ⟨w3a, w3b⟩ := wrap_nat b3
      have HB := hid (show ps ≤ 1000000000 ∧ rs ≤ 1000000000 ∧ t1 ≤ 1000000000 ∧ t1 ≤ r.length from ⟨b1, b2, b3, hpl⟩)
      have HW3 := hid (show IntKind.i64.wrap (t1 : Int) = t1 ∧ wrap64 (t1 : Int) = t1 from ⟨w3a, w3b⟩)
      clear b1 b2 b3 hpl w3a w3b
      go_upto_region 4 with (fail)
      go_cut [7] (fun s7 wx => ∃ t, s7 = .pointer (some ⟨t, 0, none⟩) ∧ wr.heap.size ≤ t ∧ Upd (fun _ => False) wr wx ∧ wx.heap[t]? = some (.cells (pgC ⟨0, ps, sl, S.recs.length, f, rs, []⟩) 87 (0, 0)))
      case first =>
        have ST := hid (H.out.upd0 U.out)
        have hS := (show wr.cell? ⟨x, 4, none⟩ = some (.int .i64 S.next) ∧ wr.cell? ⟨x, 5, none⟩ = some (.slice ar S.recs.length cr) from ⟨ST.out.cells.1.2.2.2.2.1, ST.out.cells.1.2.2.2.2.2.1⟩)
        refine wp_region_g (fun w' => w'.cell? ⟨x, 4, none⟩ = some (.int .i64 S.next) ∧ w'.cell? ⟨x, 5, none⟩ = some (.slice ar S.recs.length cr)) 21 (by kernel_rfl) ?_
        obtain ⟨Wd, hWd⟩ : ∃ Wd, wr.drew = Wd := ⟨_, rfl⟩
        have ud : Upd (fun _ => False) wr Wd := by rw [← hWd]; exact (Upd.refl _ _).drew
        have SHOW := hid (fun (wq : World) (u : Upd (fun _ => False) wr wq) => (show wq.cell? ⟨x, 4, none⟩ = some (.int .i64 S.next) ∧ wq.cell? ⟨x, 5, none⟩ = some (.slice ar S.recs.length cr) from ⟨cell_kept hS.1 (u.block x (Nat.lt_of_lt_of_le XL.out U.out.size) id), cell_kept hS.2 (u.block x (Nat.lt_of_lt_of_le XL.out U.out.size) id)⟩))
        have UD := hid ud
        rw [hWd]
        clear hWd ud hS
        have hS := SHOW.out Wd UD.out
        refine g_take0 (i := 0) rfl (by kernel_rfl) (by kernel_rfl) (by kernel_rfl) (by decide) (fun _ _ _ h => h) (Or.inl ⟨by kernel_rfl, by (intro w _; go_simp; try with_reducible rfl)⟩) (fun _ => hS) ?_
        (try go_frame)
        refine g_take0 (i := 1) rfl (by kernel_rfl) (by kernel_rfl) (by kernel_rfl) (by decide) (fun _ _ _ h => h) (Or.inl ⟨by kernel_rfl, by (intro w _; go_simp; try with_reducible rfl)⟩) (fun _ => hS) ?_
        (try go_frame)
        refine g_take0 (i := 2) rfl (by kernel_rfl) (by kernel_rfl) (by kernel_rfl) (by decide) (fun _ _ _ h => h) (Or.inl ⟨by kernel_rfl, by (intro w _; go_simp; try with_reducible rfl)⟩) (fun _ => hS) ?_
        (try go_frame)
        refine g_take (i := 3) (v := .int .i64 S.next) rfl (by kernel_rfl) (by kernel_rfl) (by kernel_rfl) (by kernel_rfl) (fun _ _ _ h => h) (Or.inl ⟨by kernel_rfl, by (intro w hSw; (try dsimp only at hSw); obtain ⟨z0, z1⟩ := hSw; go_simp; try with_reducible rfl)⟩) hS ?_
        (try go_frame)
        refine g_take0 (i := 4) rfl (by kernel_rfl) (by kernel_rfl) (by kernel_rfl) (by decide) (fun _ _ _ h => h) (Or.inl ⟨by kernel_rfl, by (intro w _; go_simp; try with_reducible rfl)⟩) (fun _ => hS) ?_
        (try go_frame)
        refine g_take0 (i := 5) (v := .int .i64 (l.length : Int)) rfl (by kernel_rfl) (by kernel_rfl) (by kernel_rfl) (by decide) (fun _ _ _ h => h) (Or.inl ⟨by kernel_rfl, by (intro w _; go_simp; try with_reducible rfl)⟩) (fun _ => hS) ?_
        (try go_frame)
        refine g_take0 (i := 6) (v := .int .i64 (ps : Int)) rfl (by kernel_rfl) (by kernel_rfl) (by kernel_rfl) (by decide) (fun _ _ _ h => h) (Or.inl ⟨by kernel_rfl, by (intro w _; go_simp; try with_reducible rfl)⟩) (fun _ => hS) ?_
        (try go_frame)
        refine g_take0 (i := 7) rfl (by kernel_rfl) (by kernel_rfl) (by kernel_rfl) (by decide) (fun _ _ _ h => h) (Or.inl ⟨by kernel_rfl, by (intro w _; go_simp; try with_reducible rfl)⟩) (fun _ => hS) ?_
        (try go_frame)
        refine g_take0 (i := 9) rfl (by kernel_rfl) (by kernel_rfl) (by kernel_rfl) (by decide) (fun _ _ _ h => h) (Or.inl ⟨by kernel_rfl, by (intro w _; go_simp; try with_reducible rfl)⟩) (fun _ => hS) ?_
        (try go_frame)
        refine g_take0 (i := 10) rfl (by kernel_rfl) (by kernel_rfl) (by kernel_rfl) (by decide) (fun _ _ _ h => h) (Or.inl ⟨by kernel_rfl, by (intro w _; go_simp; try with_reducible rfl)⟩) (fun _ => hS) ?_
        (try go_frame)
        refine g_take0 (i := 11) rfl (by kernel_rfl) (by kernel_rfl) (by kernel_rfl) (by decide) (fun _ _ _ h => h) (Or.inl ⟨by kernel_rfl, by (intro w _; go_simp; try with_reducible rfl)⟩) (fun _ => hS) ?_
        (try go_frame)
        refine g_take (i := 12) (v := .slice ar S.recs.length cr) rfl (by kernel_rfl) (by kernel_rfl) (by kernel_rfl) (by kernel_rfl) (fun _ _ _ h => h) (Or.inl ⟨by kernel_rfl, by (intro w hSw; (try dsimp only at hSw); obtain ⟨z0, z1⟩ := hSw; go_simp; try with_reducible rfl)⟩) hS ?_
        (try go_frame)
        refine g_take0 (i := 13) (v := .int .i64 (S.recs.length : Int)) rfl (by kernel_rfl) (by kernel_rfl) (by kernel_rfl) (by decide) (fun _ _ _ h => h) (Or.inl ⟨by kernel_rfl, by (intro w _; go_simp; try with_reducible rfl)⟩) (fun _ => hS) ?_
        (try go_frame)
        refine g_take0 (i := 14) rfl (by kernel_rfl) (by kernel_rfl) (by kernel_rfl) (by decide) (fun _ _ _ h => h) (Or.inl ⟨by kernel_rfl, by (intro w _; go_simp; try with_reducible rfl)⟩) (fun _ => hS) ?_
        (try go_frame)
        refine g_take0 (i := 15) rfl (by kernel_rfl) (by kernel_rfl) (by kernel_rfl) (by decide) (fun _ _ _ h => h) (Or.inl ⟨by kernel_rfl, by (intro w _; go_simp; try with_reducible rfl)⟩) (fun _ => hS) ?_
        (try go_frame)
        refine g_take0 (i := 16) (v := .int .i64 (r.length : Int)) rfl (by kernel_rfl) (by kernel_rfl) (by kernel_rfl) (by decide) (fun _ _ _ h => h) (Or.inl ⟨by kernel_rfl, by (intro w _; go_simp; try with_reducible rfl)⟩) (fun _ => hS) ?_
        (try go_frame)
        refine g_take0 (i := 17) rfl (by kernel_rfl) (by kernel_rfl) (by kernel_rfl) (by decide) (fun _ _ _ h => h) (Or.inl ⟨by kernel_rfl, by (intro w _; go_simp; try with_reducible rfl)⟩) (fun _ => hS) ?_
        (try go_frame)
        refine g_take0 (i := 18) (v := .int .i64 (rs : Int)) rfl (by kernel_rfl) (by kernel_rfl) (by kernel_rfl) (by decide) (fun _ _ _ h => h) (Or.inl ⟨by kernel_rfl, by (intro w _; go_simp; try with_reducible rfl)⟩) (fun _ => hS) ?_
        (try go_frame)
        clear hS
        refine g_two (i := 8) (j := 20) (by kernel_rfl) rfl rfl ?_ ?_
        · skip
          go_wp2_with fail
          refine (LC.out _ (U.out.trans UD.out)).mono ?_
          rintro e W1 ⟨rfl, u_⟩
          have U1 := hid (UD.out.trans u_)
          have U_ := hid u_
          clear u_
          go_wp2_with fail
          first | (refine ⟨fun _ => SHOW.out W1 U1.out, ?_⟩) | (refine ⟨SHOW.out W1 U1.out, ?_⟩)
          (try go_frame)
          refine g_take0 (i := 19) rfl (by kernel_rfl) (by kernel_rfl) (by kernel_rfl) (by decide) (fun _ _ _ h => h) (Or.inl ⟨by kernel_rfl, by (intro w _; go_simp; try with_reducible rfl)⟩) (fun _ => (SHOW.out W1 U1.out)) ?_
          (try go_frame)
          refine g_op (i := 20) (by kernel_rfl) rfl ?_
          go_wp2_with fail
          obtain ⟨W2, hW2⟩ : ∃ W', W1.alloc (.cells #[.int .i64 0, .int .i64 0, .int .i64 0, .int .i64 0, .int .i64 0, .int .i64 0, .string ⟨#[]⟩] 87 (0, 0)) = W' := ⟨_, rfl⟩
          have bz : W2.heap[W1.heap.size]? = some (.cells (pgC ⟨0, 0, 0, 0, 0, 0, []⟩) 87 (0, 0)) := by rw [← hW2]; exact heap_alloc_new
          have U2 := hid (show Upd (fun _ => False) wr W2 by rw [← hW2]; exact U1.out.alloc _)
          obtain ⟨tb, htb⟩ : ∃ tb, W1.heap.size = tb := ⟨_, rfl⟩
          have HTB := hid (show wr.heap.size ≤ tb from by rw [← htb]; exact U1.out.size)
          try rw [hW2]
          rw [htb] at bz
          try rw [htb]
          have BZ := hid bz
          clear hW2 htb bz
          first | (refine ⟨fun _ => SHOW.out W2 U2.out, ?_⟩) | (refine ⟨SHOW.out W2 U2.out, ?_⟩)
          (try go_frame)
          obtain ⟨⟨z0, z1, z2, z3, z4, z5, z6⟩, zf⟩ := zero_cells BZ.out (Upd.refl (fun _ => False) W2)
          have RS := hid (rd_store (pg := ⟨0, ps, sl, S.recs.length, f, rs, []⟩) BZ.out (Upd.refl (fun _ => False) W2) U2.out HTB.out)
          clear HRM LC
          refine g_op (i := 21) (by kernel_rfl) rfl ?_
          go_wp2_with fail
          refine ⟨fun h => (Bool.false_ne_true (h.symm.trans (by kernel_rfl))).elim, ?_⟩
          (try go_frame)
          refine g_done (by kernel_rfl) ?_
          clear z0 z1 z2 z3 z4 z5 z6 zf
          go_wp2_with fail
          go_meet
          case rel => exact ⟨tb, rfl, HTB.out, RS.out.1, RS.out.2.2⟩
        · skip
          go_wp2_with fail
          obtain ⟨W1, hW1⟩ : ∃ W', Wd.alloc (.cells #[.int .i64 0, .int .i64 0, .int .i64 0, .int .i64 0, .int .i64 0, .int .i64 0, .string ⟨#[]⟩] 87 (0, 0)) = W' := ⟨_, rfl⟩
          have bz : W1.heap[Wd.heap.size]? = some (.cells (pgC ⟨0, 0, 0, 0, 0, 0, []⟩) 87 (0, 0)) := by rw [← hW1]; exact heap_alloc_new
          have U1 := hid (show Upd (fun _ => False) wr W1 by rw [← hW1]; exact UD.out.alloc _)
          obtain ⟨tb, htb⟩ : ∃ tb, Wd.heap.size = tb := ⟨_, rfl⟩
          have HTB := hid (show wr.heap.size ≤ tb from by rw [← htb]; exact UD.out.size)
          try rw [hW1]
          rw [htb] at bz
          try rw [htb]
          have BZ := hid bz
          clear hW1 htb bz
          first | (refine ⟨fun _ => SHOW.out W1 U1.out, ?_⟩) | (refine ⟨SHOW.out W1 U1.out, ?_⟩)
          (try go_frame)
          refine g_op (i := 8) (by kernel_rfl) rfl ?_
          go_wp2_with fail
          refine (LC.out _ (U.out.trans U1.out)).mono ?_
          rintro e W2 ⟨rfl, u_⟩
          have U2 := hid (U1.out.trans u_)
          have U_ := hid u_
          clear u_
          go_wp2_with fail
          first | (refine ⟨fun _ => SHOW.out W2 U2.out, ?_⟩) | (refine ⟨SHOW.out W2 U2.out, ?_⟩)
          (try go_frame)
          refine g_take0 (i := 19) rfl (by kernel_rfl) (by kernel_rfl) (by kernel_rfl) (by decide) (fun _ _ _ h => h) (Or.inl ⟨by kernel_rfl, by (intro w _; go_simp; try with_reducible rfl)⟩) (fun _ => (SHOW.out W2 U2.out)) ?_
          (try go_frame)
          obtain ⟨⟨z0, z1, z2, z3, z4, z5, z6⟩, zf⟩ := zero_cells BZ.out U_.out
          have RS := hid (rd_store (pg := ⟨0, ps, sl, S.recs.length, f, rs, []⟩) BZ.out U_.out U1.out HTB.out)
          clear HRM LC
          refine g_op (i := 21) (by kernel_rfl) rfl ?_
          go_wp2_with fail
          refine ⟨fun h => (Bool.false_ne_true (h.symm.trans (by kernel_rfl))).elim, ?_⟩
          (try go_frame)
          refine g_done (by kernel_rfl) ?_
          clear z0 z1 z2 z3 z4 z5 z6 zf
          go_wp2_with fail
          go_meet
          case rel => exact ⟨tb, rfl, HTB.out, RS.out.1, RS.out.2.2⟩
      case rest =>
        obtain ⟨t, rfl, htl, ut, hbt⟩ := hcut
        have UT := hid ut; have HBT := hid hbt; have HTL := hid htl
        clear ut hbt htl w1a w1b w2a w2b f1 f2
        obtain ⟨w3a, w3b⟩ := HW3.out
        obtain ⟨z0, z1, z2, z3, z4, z5, z6⟩ := pg_cells HBT.out
        have f3 := F3.out
        go_wp2_with fail
        refine (HRM.out _).mono ?_
        rintro e w5 ⟨rfl, u5⟩
        have hb5 := (u5.block t (heap_lt HBT.out) id).trans HBT.out
        have B6 := hid (store_6 hb5 ch)
        have U5 := hid ((U.out.trans UT.out).trans u5)
        have U6 := hid (show Upd (fun _ => False) w (w5.setCell ⟨t, 6, none⟩ (.string ⟨ch.toArray⟩)) from U5.out.comp ((Upd.refl (· = t) w5).at_ 6 _) fun i hi e => by have := HTL.out; have := U.out.size; omega)
        have ROW6 := hid (show PRow (w5.setCell ⟨t, 6, none⟩ (.string ⟨ch.toArray⟩)) w.heap.size (.slice a l.length c) l from ((ROW.out.upd UT.out fun _ _ => id).upd u5 fun _ _ => id).upd ((Upd.refl (· = t) w5).at_ 6 _) fun g hg e => by have := (ROW.out.lt g hg).2; have := HTL.out; omega)
        have zf : ∀ o, w5.frozen? ⟨t, o, none⟩ = false := fun o => frozen_of_block hb5
        have y6 : w5.cell? ⟨t, 6, none⟩ = some (.string ⟨#[]⟩) := by rw [cell_of_block hb5]; rfl
        obtain ⟨w6, hw6⟩ : ∃ w6, w5.setCell ⟨t, 6, none⟩ (.string ⟨ch.toArray⟩) = w6 := ⟨_, rfl⟩
        rw [hw6] at B6 U6 ROW6
        have HW6 := hid hw6
        have hext := HEXT.out
        clear u5 hb5 hw6 z0 z1 z2 z3 z4 z5 z6
        go_upto_region 6 with (fail)
        rw [HW6.out]
        clear HW6 zf y6 hext w3a w3b f3 U5
        obtain ⟨z0, z1, z2, z3, z4, z5, z6⟩ := pg_cells B6.out
        have h1 := hll5.out
        obtain ⟨v7, w7, r7, o7, u7, n7⟩ := append_one elemPg ROW6.out (pgC ⟨0, ps, sl, S.recs.length, f, rs, ch⟩) rfl (Array.all_eq_true_iff_forall_mem.1 (pgC_one _)) (by unfold maxLen; omega) (by omega) U6.out.size 84 (0, 0)
        have ROW7 : PRow w7 w.heap.size v7 (l ++ [⟨0, ps, sl, S.recs.length, f, rs, ch⟩]) := by
          unfold PRow
          rw [List.length_append, flatP_append]
          exact o7
        have hlow := ROW6.out.lt
        have U7 := hid (U6.out.comp u7 fun i hi e => by have := (hlow i e).1; omega)
        have ne7 : ∀ k, (Value.slice a l.length c).ownBlock = some k → k ≠ t := fun k hk e => by have := (ROW.out.lt k hk).2; have := HTL.out; omega
        have B7 := hid ((u7.block t (heap_lt B6.out) fun e => ne7 t e rfl).trans B6.out)
        obtain ⟨a7, c7, rfl, _, _⟩ := ROW7.fits
        have R7 := hid ROW7
        have r7 : (Builtin.append_ #[84, 84] 84 #[.slice a l.length c, .slice (some ⟨w6.heap.size, 0, none⟩) 1 1]).run Tryz.prog (w6.alloc (.cells #[.int .i64 (0 : Nat), .int .i64 ps, .int .i64 sl, .int .i64 S.recs.length, .int .i64 f, .int .i64 rs, .string ⟨ch.toArray⟩] 87 (0, 0))) = .ok (.slice a7 (l.length + 1) c7) w7 := by rw [List.length_append] at r7; exact r7
        rw [show ((0 : Nat) : Int) = 0 from rfl] at r7
        clear o7 u7 n7 hlow ne7 ROW7 h1
        go_upto_region 7 with (at_builtin; refine wpList_append_run rfl _ _ _ _ rfl rfl rfl r7 ?_)
        clear r7 z0 z1 z2 z3 z4 z5 z6
        obtain ⟨y0, y1, y2, y3, y4, y5, y6⟩ := pg_cells B7.out
        have f4 : (f : Int) + ch.length = t1 := by rw [CHL.out]; exact F3.out
        have b3 := HB.out.2.2.1
        have b3i : (t1 : Int) ≤ 1000000000 := by omega
        go_wp2_with fail
        go_roundg n'
        case measure => omega
        case rel => exact ⟨l ++ [⟨0, ps, sl, S.recs.length, f, rs, ch⟩], a7, c7, t1, by rw [List.length_append]; rfl, rfl, PN.out, R7.out, U7.out⟩
    have hc1i : ¬ (f : Int) < r.length := by omega
    by_cases hc2' : l.length = 0
    case neg =>
      have hc2i : ¬ (l.length : Int) = 0 := by omega
      have hc2b : ((l.length : Int) == 0) = false := beq_eq_false_iff_ne.2 hc2i
      have hc2d : decide (l = []) = false := decide_eq_false fun e => hc2' (by rw [e]; rfl)
      have R := hid (PA.out.done hc1 hc2')
      clear hc2'
      go_wp2_with fail
      go_ret
      exact ⟨⟨_, rfl, by rw [R.out]; exact ROW.out⟩, U.out⟩
    have hc := (show f < r.length ∨ l.length = 0 from .inr hc2')
    have hc2b : ((l.length : Int) == 0) = true := beq_iff_eq.2 (by omega)
    have hc2d : decide (l = []) = true := decide_eq_true (List.eq_nil_of_length_eq_zero hc2')
    clear hc2'
    obtain ⟨hlf, n', rfl, hpn, hpl⟩ := PA.out.next SM.out hc
    obtain ⟨g1, g2⟩ := piece_len SM.out hfl hlf
    obtain ⟨rm, hrm⟩ : ∃ rm, (pieceP S r l.length f).bytes.length = rm := ⟨_, rfl⟩
    obtain ⟨ch, hch⟩ : ∃ ch, (pieceP S r l.length f).bytes = ch := ⟨_, rfl⟩
    obtain ⟨ps, hps⟩ : ∃ ps, S.next + l.length = ps := ⟨_, rfl⟩
    obtain ⟨rs, hrs⟩ : ∃ rs, r.length - f = rs := ⟨_, rfl⟩
    obtain ⟨sl, hsl⟩ : ∃ sl, S.len = sl := ⟨_, rfl⟩
    obtain ⟨t1, ht1⟩ : ∃ t1, f + rm = t1 := ⟨_, rfl⟩
    have hhead : headP S r l.length f = ⟨0, ps, sl, S.recs.length, f, rs, []⟩ := by unfold headP; rw [hps, hrs, hsl]
    have hpc : pieceP S r l.length f = ⟨0, ps, sl, S.recs.length, f, rs, ch⟩ := by rw [← hch]; show { headP S r l.length f with bytes := (pieceP S r l.length f).bytes } = _; rw [hhead]
    have hchd : (r.drop f).take rm = ch := by rw [← hch, ← hrm]; exact piece_take S r l.length f
    have hchl : ch.length = rm := by rw [← hch, hrm]
    rw [hrm] at g1 hpn hpl
    rw [hpc, ht1] at hpn
    rw [ht1] at hpl
    rw [hhead] at g1
    have hpi : PgI ⟨0, ps, sl, S.recs.length, f, rs, []⟩ := by
      have h1 := SM.out.next; have h2 := OK.out.len; have h3 : S.recs.length ≤ S.len := by unfold St.len; omega
      refine ⟨?_, ?_, ?_, ?_, ?_, ?_⟩ <;> unfold I64 <;> dsimp only <;> omega
    have HRM := hid (fun (wq : World) => (show Calls Tryz.prog 71 #[.agg #[.int .i64 0, .int .i64 ps, .int .i64 sl, .int .i64 S.recs.length, .int .i64 f, .int .i64 rs, .string ⟨#[]⟩]] wq fun e w' => e = .returned (.int .i64 (rm : Int)) ∧ Upd (fun _ => False) wq w' from by rw [g1]; exact qroom_any ⟨0, ps, sl, S.recs.length, f, rs, []⟩ hpi wq))
    have LC := hid (fun (wq : World) (u : Upd (fun _ => False) w wq) => (show Calls Tryz.prog 22 #[.pointer (some ⟨x, 0, none⟩)] wq fun e w' => e = .returned (.int .i64 (sl : Int)) ∧ Upd (fun _ => False) wq w' from by rw [← hsl]; exact rlen_any (H.out.upd0 u) OK.out))
    have hnx := SM.out.next
    have f1 : (S.next : Int) + l.length = ps := by omega
    have f2 : (r.length : Int) - f = rs := by omega
    have f3 : (f : Int) + rm = t1 := by omega
    have b1 : ps ≤ 1000000000 := by have := HRL.out; omega
    have b2 : rs ≤ 1000000000 := by have := HRL.out; omega
    have b3 : t1 ≤ 1000000000 := by have := HRL.out; omega
    have hf1 : f ≤ t1 := by omega
    have hf1i : (f : Int) ≤ t1 := by omega
    have ht1i : (t1 : Int) ≤ r.length := by omega
    have hext := rext_mid r f rm t1 ht1
    rw [hchd] at hext
    have PN := hid hpn; have HEXT := hid hext
    have CHL := hid hchl
    have F3 := hid f3
    have hll5 := hid (show l.length + 1 ≤ 1000000 by omega)
    clear g1 g2 hrm hch hps hrs hsl ht1 hhead hpc hchd hchl hpn hpi hnx hlf hext PA f3
    obtain ⟨w1a, w1b⟩ := wrap_nat b1
    obtain ⟨w2a, w2b⟩ := wrap_nat b2
    obtain ⟨w3a, w3b⟩ := wrap_nat b3
    have HB := hid (show ps ≤ 1000000000 ∧ rs ≤ 1000000000 ∧ t1 ≤ 1000000000 ∧ t1 ≤ r.length from ⟨b1, b2, b3, hpl⟩)
    have HW3 := hid (show IntKind.i64.wrap (t1 : Int) = t1 ∧ wrap64 (t1 : Int) = t1 from ⟨w3a, w3b⟩)
    clear b1 b2 b3 hpl w3a w3b
    go_upto_region 4 with (fail)
    go_cut [7] (fun s7 wx => ∃ t, s7 = .pointer (some ⟨t, 0, none⟩) ∧ wr.heap.size ≤ t ∧ Upd (fun _ => False) wr wx ∧ wx.heap[t]? = some (.cells (pgC ⟨0, ps, sl, S.recs.length, f, rs, []⟩) 87 (0, 0)))
    case first =>
      have ST := hid (H.out.upd0 U.out)
      have hS := (show wr.cell? ⟨x, 4, none⟩ = some (.int .i64 S.next) ∧ wr.cell? ⟨x, 5, none⟩ = some (.slice ar S.recs.length cr) from ⟨ST.out.cells.1.2.2.2.2.1, ST.out.cells.1.2.2.2.2.2.1⟩)
      refine wp_region_g (fun w' => w'.cell? ⟨x, 4, none⟩ = some (.int .i64 S.next) ∧ w'.cell? ⟨x, 5, none⟩ = some (.slice ar S.recs.length cr)) 21 (by kernel_rfl) ?_
      obtain ⟨Wd, hWd⟩ : ∃ Wd, wr.drew = Wd := ⟨_, rfl⟩
      have ud : Upd (fun _ => False) wr Wd := by rw [← hWd]; exact (Upd.refl _ _).drew
      have SHOW := hid (fun (wq : World) (u : Upd (fun _ => False) wr wq) => (show wq.cell? ⟨x, 4, none⟩ = some (.int .i64 S.next) ∧ wq.cell? ⟨x, 5, none⟩ = some (.slice ar S.recs.length cr) from ⟨cell_kept hS.1 (u.block x (Nat.lt_of_lt_of_le XL.out U.out.size) id), cell_kept hS.2 (u.block x (Nat.lt_of_lt_of_le XL.out U.out.size) id)⟩))
      have UD := hid ud
      rw [hWd]
      clear hWd ud hS
      have hS := SHOW.out Wd UD.out
      refine g_take0 (i := 0) rfl (by kernel_rfl) (by kernel_rfl) (by kernel_rfl) (by decide) (fun _ _ _ h => h) (Or.inl ⟨by kernel_rfl, by (intro w _; go_simp; try with_reducible rfl)⟩) (fun _ => hS) ?_
      (try go_frame)
      refine g_take0 (i := 1) rfl (by kernel_rfl) (by kernel_rfl) (by kernel_rfl) (by decide) (fun _ _ _ h => h) (Or.inl ⟨by kernel_rfl, by (intro w _; go_simp; try with_reducible rfl)⟩) (fun _ => hS) ?_
      (try go_frame)
      refine g_take0 (i := 2) rfl (by kernel_rfl) (by kernel_rfl) (by kernel_rfl) (by decide) (fun _ _ _ h => h) (Or.inl ⟨by kernel_rfl, by (intro w _; go_simp; try with_reducible rfl)⟩) (fun _ => hS) ?_
      (try go_frame)
      refine g_take (i := 3) (v := .int .i64 S.next) rfl (by kernel_rfl) (by kernel_rfl) (by kernel_rfl) (by kernel_rfl) (fun _ _ _ h => h) (Or.inl ⟨by kernel_rfl, by (intro w hSw; (try dsimp only at hSw); obtain ⟨z0, z1⟩ := hSw; go_simp; try with_reducible rfl)⟩) hS ?_
      (try go_frame)
      refine g_take0 (i := 4) rfl (by kernel_rfl) (by kernel_rfl) (by kernel_rfl) (by decide) (fun _ _ _ h => h) (Or.inl ⟨by kernel_rfl, by (intro w _; go_simp; try with_reducible rfl)⟩) (fun _ => hS) ?_
      (try go_frame)
      refine g_take0 (i := 5) (v := .int .i64 (l.length : Int)) rfl (by kernel_rfl) (by kernel_rfl) (by kernel_rfl) (by decide) (fun _ _ _ h => h) (Or.inl ⟨by kernel_rfl, by (intro w _; go_simp; try with_reducible rfl)⟩) (fun _ => hS) ?_
      (try go_frame)
      refine g_take0 (i := 6) (v := .int .i64 (ps : Int)) rfl (by kernel_rfl) (by kernel_rfl) (by kernel_rfl) (by decide) (fun _ _ _ h => h) (Or.inl ⟨by kernel_rfl, by (intro w _; go_simp; try with_reducible rfl)⟩) (fun _ => hS) ?_
      (try go_frame)
      refine g_take0 (i := 7) rfl (by kernel_rfl) (by kernel_rfl) (by kernel_rfl) (by decide) (fun _ _ _ h => h) (Or.inl ⟨by kernel_rfl, by (intro w _; go_simp; try with_reducible rfl)⟩) (fun _ => hS) ?_
      (try go_frame)
      refine g_take0 (i := 9) rfl (by kernel_rfl) (by kernel_rfl) (by kernel_rfl) (by decide) (fun _ _ _ h => h) (Or.inl ⟨by kernel_rfl, by (intro w _; go_simp; try with_reducible rfl)⟩) (fun _ => hS) ?_
      (try go_frame)
      refine g_take0 (i := 10) rfl (by kernel_rfl) (by kernel_rfl) (by kernel_rfl) (by decide) (fun _ _ _ h => h) (Or.inl ⟨by kernel_rfl, by (intro w _; go_simp; try with_reducible rfl)⟩) (fun _ => hS) ?_
      (try go_frame)
      refine g_take0 (i := 11) rfl (by kernel_rfl) (by kernel_rfl) (by kernel_rfl) (by decide) (fun _ _ _ h => h) (Or.inl ⟨by kernel_rfl, by (intro w _; go_simp; try with_reducible rfl)⟩) (fun _ => hS) ?_
      (try go_frame)
      refine g_take (i := 12) (v := .slice ar S.recs.length cr) rfl (by kernel_rfl) (by kernel_rfl) (by kernel_rfl) (by kernel_rfl) (fun _ _ _ h => h) (Or.inl ⟨by kernel_rfl, by (intro w hSw; (try dsimp only at hSw); obtain ⟨z0, z1⟩ := hSw; go_simp; try with_reducible rfl)⟩) hS ?_
      (try go_frame)
      refine g_take0 (i := 13) (v := .int .i64 (S.recs.length : Int)) rfl (by kernel_rfl) (by kernel_rfl) (by kernel_rfl) (by decide) (fun _ _ _ h => h) (Or.inl ⟨by kernel_rfl, by (intro w _; go_simp; try with_reducible rfl)⟩) (fun _ => hS) ?_
      (try go_frame)
      refine g_take0 (i := 14) rfl (by kernel_rfl) (by kernel_rfl) (by kernel_rfl) (by decide) (fun _ _ _ h => h) (Or.inl ⟨by kernel_rfl, by (intro w _; go_simp; try with_reducible rfl)⟩) (fun _ => hS) ?_
      (try go_frame)
      refine g_take0 (i := 15) rfl (by kernel_rfl) (by kernel_rfl) (by kernel_rfl) (by decide) (fun _ _ _ h => h) (Or.inl ⟨by kernel_rfl, by (intro w _; go_simp; try with_reducible rfl)⟩) (fun _ => hS) ?_
      (try go_frame)
      refine g_take0 (i := 16) (v := .int .i64 (r.length : Int)) rfl (by kernel_rfl) (by kernel_rfl) (by kernel_rfl) (by decide) (fun _ _ _ h => h) (Or.inl ⟨by kernel_rfl, by (intro w _; go_simp; try with_reducible rfl)⟩) (fun _ => hS) ?_
      (try go_frame)
      refine g_take0 (i := 17) rfl (by kernel_rfl) (by kernel_rfl) (by kernel_rfl) (by decide) (fun _ _ _ h => h) (Or.inl ⟨by kernel_rfl, by (intro w _; go_simp; try with_reducible rfl)⟩) (fun _ => hS) ?_
      (try go_frame)
      refine g_take0 (i := 18) (v := .int .i64 (rs : Int)) rfl (by kernel_rfl) (by kernel_rfl) (by kernel_rfl) (by decide) (fun _ _ _ h => h) (Or.inl ⟨by kernel_rfl, by (intro w _; go_simp; try with_reducible rfl)⟩) (fun _ => hS) ?_
      (try go_frame)
      clear hS
      refine g_two (i := 8) (j := 20) (by kernel_rfl) rfl rfl ?_ ?_
      · skip
        go_wp2_with fail
        refine (LC.out _ (U.out.trans UD.out)).mono ?_
        rintro e W1 ⟨rfl, u_⟩
        have U1 := hid (UD.out.trans u_)
        have U_ := hid u_
        clear u_
        go_wp2_with fail
        first | (refine ⟨fun _ => SHOW.out W1 U1.out, ?_⟩) | (refine ⟨SHOW.out W1 U1.out, ?_⟩)
        (try go_frame)
        refine g_take0 (i := 19) rfl (by kernel_rfl) (by kernel_rfl) (by kernel_rfl) (by decide) (fun _ _ _ h => h) (Or.inl ⟨by kernel_rfl, by (intro w _; go_simp; try with_reducible rfl)⟩) (fun _ => (SHOW.out W1 U1.out)) ?_
        (try go_frame)
        refine g_op (i := 20) (by kernel_rfl) rfl ?_
        go_wp2_with fail
        obtain ⟨W2, hW2⟩ : ∃ W', W1.alloc (.cells #[.int .i64 0, .int .i64 0, .int .i64 0, .int .i64 0, .int .i64 0, .int .i64 0, .string ⟨#[]⟩] 87 (0, 0)) = W' := ⟨_, rfl⟩
        have bz : W2.heap[W1.heap.size]? = some (.cells (pgC ⟨0, 0, 0, 0, 0, 0, []⟩) 87 (0, 0)) := by rw [← hW2]; exact heap_alloc_new
        have U2 := hid (show Upd (fun _ => False) wr W2 by rw [← hW2]; exact U1.out.alloc _)
        obtain ⟨tb, htb⟩ : ∃ tb, W1.heap.size = tb := ⟨_, rfl⟩
        have HTB := hid (show wr.heap.size ≤ tb from by rw [← htb]; exact U1.out.size)
        try rw [hW2]
        rw [htb] at bz
        try rw [htb]
        have BZ := hid bz
        clear hW2 htb bz
        first | (refine ⟨fun _ => SHOW.out W2 U2.out, ?_⟩) | (refine ⟨SHOW.out W2 U2.out, ?_⟩)
        (try go_frame)
        obtain ⟨⟨z0, z1, z2, z3, z4, z5, z6⟩, zf⟩ := zero_cells BZ.out (Upd.refl (fun _ => False) W2)
        have RS := hid (rd_store (pg := ⟨0, ps, sl, S.recs.length, f, rs, []⟩) BZ.out (Upd.refl (fun _ => False) W2) U2.out HTB.out)
        clear HRM LC
        refine g_op (i := 21) (by kernel_rfl) rfl ?_
        go_wp2_with fail
        refine ⟨fun h => (Bool.false_ne_true (h.symm.trans (by kernel_rfl))).elim, ?_⟩
        (try go_frame)
        refine g_done (by kernel_rfl) ?_
        clear z0 z1 z2 z3 z4 z5 z6 zf
        go_wp2_with fail
        go_meet
        case rel => exact ⟨tb, rfl, HTB.out, RS.out.1, RS.out.2.2⟩
      · skip
        go_wp2_with fail
        obtain ⟨W1, hW1⟩ : ∃ W', Wd.alloc (.cells #[.int .i64 0, .int .i64 0, .int .i64 0, .int .i64 0, .int .i64 0, .int .i64 0, .string ⟨#[]⟩] 87 (0, 0)) = W' := ⟨_, rfl⟩
        have bz : W1.heap[Wd.heap.size]? = some (.cells (pgC ⟨0, 0, 0, 0, 0, 0, []⟩) 87 (0, 0)) := by rw [← hW1]; exact heap_alloc_new
        have U1 := hid (show Upd (fun _ => False) wr W1 by rw [← hW1]; exact UD.out.alloc _)
        obtain ⟨tb, htb⟩ : ∃ tb, Wd.heap.size = tb := ⟨_, rfl⟩
        have HTB := hid (show wr.heap.size ≤ tb from by rw [← htb]; exact UD.out.size)
        try rw [hW1]
        rw [htb] at bz
        try rw [htb]
        have BZ := hid bz
        clear hW1 htb bz
        first | (refine ⟨fun _ => SHOW.out W1 U1.out, ?_⟩) | (refine ⟨SHOW.out W1 U1.out, ?_⟩)
        (try go_frame)
        refine g_op (i := 8) (by kernel_rfl) rfl ?_
        go_wp2_with fail
        refine (LC.out _ (U.out.trans U1.out)).mono ?_
        rintro e W2 ⟨rfl, u_⟩
        have U2 := hid (U1.out.trans u_)
        have U_ := hid u_
        clear u_
        go_wp2_with fail
        first | (refine ⟨fun _ => SHOW.out W2 U2.out, ?_⟩) | (refine ⟨SHOW.out W2 U2.out, ?_⟩)
        (try go_frame)
        refine g_take0 (i := 19) rfl (by kernel_rfl) (by kernel_rfl) (by kernel_rfl) (by decide) (fun _ _ _ h => h) (Or.inl ⟨by kernel_rfl, by (intro w _; go_simp; try with_reducible rfl)⟩) (fun _ => (SHOW.out W2 U2.out)) ?_
        (try go_frame)
        obtain ⟨⟨z0, z1, z2, z3, z4, z5, z6⟩, zf⟩ := zero_cells BZ.out U_.out
        have RS := hid (rd_store (pg := ⟨0, ps, sl, S.recs.length, f, rs, []⟩) BZ.out U_.out U1.out HTB.out)
        clear HRM LC
        refine g_op (i := 21) (by kernel_rfl) rfl ?_
        go_wp2_with fail
        refine ⟨fun h => (Bool.false_ne_true (h.symm.trans (by kernel_rfl))).elim, ?_⟩
        (try go_frame)
        refine g_done (by kernel_rfl) ?_
        clear z0 z1 z2 z3 z4 z5 z6 zf
        go_wp2_with fail
        go_meet
        case rel => exact ⟨tb, rfl, HTB.out, RS.out.1, RS.out.2.2⟩
    case rest =>
      obtain ⟨t, rfl, htl, ut, hbt⟩ := hcut
      have UT := hid ut; have HBT := hid hbt; have HTL := hid htl
      clear ut hbt htl w1a w1b w2a w2b f1 f2
      obtain ⟨w3a, w3b⟩ := HW3.out
      obtain ⟨z0, z1, z2, z3, z4, z5, z6⟩ := pg_cells HBT.out
      have f3 := F3.out
      go_wp2_with fail
      refine (HRM.out _).mono ?_
      rintro e w5 ⟨rfl, u5⟩
      have hb5 := (u5.block t (heap_lt HBT.out) id).trans HBT.out
      have B6 := hid (store_6 hb5 ch)
      have U5 := hid ((U.out.trans UT.out).trans u5)
      have U6 := hid (show Upd (fun _ => False) w (w5.setCell ⟨t, 6, none⟩ (.string ⟨ch.toArray⟩)) from U5.out.comp ((Upd.refl (· = t) w5).at_ 6 _) fun i hi e => by have := HTL.out; have := U.out.size; omega)
      have ROW6 := hid (show PRow (w5.setCell ⟨t, 6, none⟩ (.string ⟨ch.toArray⟩)) w.heap.size (.slice a l.length c) l from ((ROW.out.upd UT.out fun _ _ => id).upd u5 fun _ _ => id).upd ((Upd.refl (· = t) w5).at_ 6 _) fun g hg e => by have := (ROW.out.lt g hg).2; have := HTL.out; omega)
      have zf : ∀ o, w5.frozen? ⟨t, o, none⟩ = false := fun o => frozen_of_block hb5
      have y6 : w5.cell? ⟨t, 6, none⟩ = some (.string ⟨#[]⟩) := by rw [cell_of_block hb5]; rfl
      obtain ⟨w6, hw6⟩ : ∃ w6, w5.setCell ⟨t, 6, none⟩ (.string ⟨ch.toArray⟩) = w6 := ⟨_, rfl⟩
      rw [hw6] at B6 U6 ROW6
      have HW6 := hid hw6
      have hext := HEXT.out
      clear u5 hb5 hw6 z0 z1 z2 z3 z4 z5 z6
      go_upto_region 6 with (fail)
      rw [HW6.out]
      clear HW6 zf y6 hext w3a w3b f3 U5
      obtain ⟨z0, z1, z2, z3, z4, z5, z6⟩ := pg_cells B6.out
      have h1 := hll5.out
      obtain ⟨v7, w7, r7, o7, u7, n7⟩ := append_one elemPg ROW6.out (pgC ⟨0, ps, sl, S.recs.length, f, rs, ch⟩) rfl (Array.all_eq_true_iff_forall_mem.1 (pgC_one _)) (by unfold maxLen; omega) (by omega) U6.out.size 84 (0, 0)
      have ROW7 : PRow w7 w.heap.size v7 (l ++ [⟨0, ps, sl, S.recs.length, f, rs, ch⟩]) := by
        unfold PRow
        rw [List.length_append, flatP_append]
        exact o7
      have hlow := ROW6.out.lt
      have U7 := hid (U6.out.comp u7 fun i hi e => by have := (hlow i e).1; omega)
      have ne7 : ∀ k, (Value.slice a l.length c).ownBlock = some k → k ≠ t := fun k hk e => by have := (ROW.out.lt k hk).2; have := HTL.out; omega
      have B7 := hid ((u7.block t (heap_lt B6.out) fun e => ne7 t e rfl).trans B6.out)
      obtain ⟨a7, c7, rfl, _, _⟩ := ROW7.fits
      have R7 := hid ROW7
      have r7 : (Builtin.append_ #[84, 84] 84 #[.slice a l.length c, .slice (some ⟨w6.heap.size, 0, none⟩) 1 1]).run Tryz.prog (w6.alloc (.cells #[.int .i64 (0 : Nat), .int .i64 ps, .int .i64 sl, .int .i64 S.recs.length, .int .i64 f, .int .i64 rs, .string ⟨ch.toArray⟩] 87 (0, 0))) = .ok (.slice a7 (l.length + 1) c7) w7 := by rw [List.length_append] at r7; exact r7
      rw [show ((0 : Nat) : Int) = 0 from rfl] at r7
      clear o7 u7 n7 hlow ne7 ROW7 h1
      go_upto_region 7 with (at_builtin; refine wpList_append_run rfl _ _ _ _ rfl rfl rfl r7 ?_)
      clear r7 z0 z1 z2 z3 z4 z5 z6
      obtain ⟨y0, y1, y2, y3, y4, y5, y6⟩ := pg_cells B7.out
      have f4 : (f : Int) + ch.length = t1 := by rw [CHL.out]; exact F3.out
      have b3 := HB.out.2.2.1
      have b3i : (t1 : Int) ≤ 1000000000 := by omega
      go_wp2_with fail
      go_roundg n'
      case measure => omega
      case rel => exact ⟨l ++ [⟨0, ps, sl, S.recs.length, f, rs, ch⟩], a7, c7, t1, by rw [List.length_append]; rfl, rfl, PN.out, R7.out, U7.out⟩
end
end Go.Proofs.YtlefilfdomjkeaaGreatDoor
namespace Go.Proofs.YtlefilfdomjkeaaGreatDoor
open Go.RowKit Go.Deep
def RCallPost (O : Nat → Prop) (x p q : Nat) (g' : Nat → Nat) (R : Fl × St × Int) (w : World) (e : Ending) (w' : World) : Prop :=
  e = .returned (.int .i64 R.2.2) ∧ (∃ O' vr va, RStAt w' O' x p q g' R.1 R.2.1 vr va ∧ ∀ k, O' k → O k ∨ w.heap.size ≤ k) ∧ Sto O w w'
theorem Pg.Good.ints {p : Pg} (h : p.Good) : PgI p := by
  have h1 := h.kind; have h2 := h.pos; have h3 := h.number; have h4 := h.diff; have h5 := h.offset; have h6 := h.rest
  refine ⟨?_, ?_, ?_, ?_, ?_, ?_⟩ <;> unfold I64 <;> omega
section
variable {w : World} {O : Nat → Prop} {x p q : Nat} {g' : Nat → Nat} {F : Fl} {S : St} {vr va : Value}
theorem rcall_same (h : RStAt w O x p q g' F S vr va) {w' : World} (u : Upd (fun _ => False) w w') {R : Fl × St × Int} {e : Int} (hR : R = (F, S, e)) : RCallPost O x p q g' R w (.returned (.int .i64 e)) w' := by
  subst hR
  exact ⟨rfl, ⟨O, vr, va, h.upd0 u, fun _ => .inl⟩, .of0 u⟩
set_option maxRecDepth 100000 in
set_option maxHeartbeats 4000000 in
theorem rappend_any (h : RStAt w O x p q g' F S vr va) (ok : StOk S) (hd : F.down = false) (r : List UInt8) (hrl : r.length ≤ 1000000) :
    Calls Tryz.prog 13 #[.pointer (some ⟨x, 0, none⟩), .string ⟨r.toArray⟩] w (RCallPost O x p q g' (appendP F S r) w) := by
  have hrli : (r.length : Int) ≤ 1000000 := by omega
  have H := hid h; have OK := hid ok; have HD := hid hd
  clear h ok hd hrl
  by_cases h4 : 4000 < r.length
  case pos =>
    have h4i : (4000 : Int) < r.length := by omega
    have R := hid (append_long (F := F) (S := S) h4)
    clear h4
    go_enter Tryz.func13, Tryz.ntmps13
    go_wp2_with fail
    go_ret
    exact rcall_same H.out (Upd.refl _ _) R.out
  have h4i : ¬ (4000 : Int) < r.length := by omega
  have H4 := hid h4
  have HRL := hid (show r.length ≤ 4000 by omega)
  have SM := hid (show S.Small r from ⟨by have := OK.out.next; omega, by have := OK.out.len; omega⟩)
  clear h4
  go_enter Tryz.func13, Tryz.ntmps13
  go_wp2_with fail
  refine (rpieces_any H.out OK.out r HRL.out).mono ?_
  rintro e w2 ⟨⟨v, rfl, hrow⟩, u2⟩
  obtain ⟨L, hL⟩ : ∃ L, recP S r = L := ⟨_, rfl⟩
  rw [hL] at hrow
  obtain ⟨a, c, rfl, hc1, hc2⟩ := hrow.fits
  have hc2 : c ≤ 9223372036854775807 := hc2
  obtain ⟨n, hn⟩ : ∃ n, L.length = n := ⟨_, rfl⟩
  have hn16 : n * 16 ≤ 4016 := by have h1 := rec_count SM.out; rw [hL, hn] at h1; have := HRL.out; omega
  have hn0 : 0 < n := by have h1 := rec_pos SM.out; rw [List.length_map, hL, hn] at h1; exact h1
  rw [hn] at hc1
  rw [hn]
  have LT := hid (show (recP S r).map txtP = L.map txtP by rw [hL])
  have LN := hid (show (L.map txtP).length = n by rw [List.length_map, hn])
  have GOODS := hid (show ∀ p ∈ L, p.Good from fun p hp => (rec_all SM.out p (by rw [hL]; exact hp)).1)
  have TXTS := hid (show ∀ p ∈ L, (txtP p).length ≤ 1000000 from fun p hp => rec_texts SM.out _ (List.mem_map_of_mem (by rw [hL]; exact hp)))
  have HN := hid hn; have HN0 := hid hn0; have HN16 := hid hn16
  have ROW := hid hrow; have U2 := hid u2; have ST2 := hid (H.out.upd0 u2)
  have NO := hid (show ∀ g, (Value.slice a L.length c).ownBlock = some g → ¬ O g from fun g hg e => by have h1 := (hrow.lt g hg).1; have h2 := H.out.lt g e; omega)
  have hnx := OK.out.next
  have hnp := ST2.out.flash.ok.np
  obtain ⟨⟨c0, c1, c2, c3, c4, c5, c6⟩, hf⟩ := ST2.out.cells
  obtain ⟨m1, hm1⟩ : ∃ m, S.next + n = m := ⟨_, rfl⟩
  obtain ⟨m2, hm2⟩ : ∃ m, S.next + n - 1 = m := ⟨_, rfl⟩
  obtain ⟨m3, hm3⟩ : ∃ m, S.next + n - 1 + F.np = m := ⟨_, rfl⟩
  have f1 : (S.next : Int) + n = m1 := by omega
  have f2 : (m1 : Int) - 1 = m2 := by omega
  have f3 : (m2 : Int) + F.np = m3 := by omega
  have i1 : (m1 : Int) ≤ 1000000 := by omega
  have i2 : (m2 : Int) ≤ 1000000 := by omega
  have i0 : (0 : Int) ≤ m2 := by omega
  have i3 : (m3 : Int) ≤ 1000100 := by omega
  have M3 := hid (show m3 ≤ 2000000 by omega)
  have hni : (n : Int) ≤ 1000 := by omega
  have HM := hid hm3
  have HNX := hid hnx
  obtain ⟨b, hb⟩ : ∃ b, fitsP F S m3 = b := ⟨_, rfl⟩
  have FC := hid (rfits_any ST2.out OK.out m3 M3.out)
  rw [hb] at FC
  have hb' : fitsP F S (S.next + (L.map txtP).length - 1 + F.np) = b := by rw [LN.out, HM.out, hb]
  have HB := hid hb'
  clear hn hL hrow u2 hn16 hn0 hnx hnp hm1 hm2 hm3 hb hb'
  go_wp2_with fail
  refine FC.out.mono ?_
  rintro e w3 ⟨rfl, u3⟩
  have ST3 := hid (ST2.out.upd0 u3); have U3 := hid (U2.out.trans u3); have ROW3 := hid (ROW.out.upd u3 fun _ _ => id)
  clear FC u3 c0 c1 c2 c3 c4 c5 c6 hf f1 f2 f3 i1 i2 i0 i3
  cases b with
  | false =>
    have R := hid (append_full LT.out H4.out HB.out)
    go_wp2_with fail
    go_ret
    exact rcall_same H.out U3.out R.out
  | true =>
    go_wp2_with fail
    go_loopg [7] n (fun gg s7 wy => ∃ (k : Nat) (G : Fl) (T : St), s7 = .int .i64 k ∧ k ≤ n ∧ gg = n - k ∧ WriteAt F S (L.map txtP) k G T ∧ RStAt wy O x p q g' G T vr va ∧ Sto O w3 wy)
    case atStart => exact ⟨0, F, S, rfl, Nat.zero_le _, rfl, writeAt_zero HD.out, ST3.out, Sto.refl _ _⟩
    case round =>
      obtain ⟨k, G, T, rfl, hk, hg, hwa, hst, u⟩ := hrel
      have HG := hid hg; have WA := hid hwa; have ST := hid hst; have U := hid u
      have ROWk := hid (ROW3.out.upd u fun g hg e => NO.out g hg e.1)
      clear hg hwa hst u
      have UALL := hid ((Sto.of0 (O := O) U3.out).then U.out)
      by_cases hkn : k < n
      case pos =>
        have hkni : (k : Int) < n := by omega
        have hkL : k < L.length := by rw [HN.out]; exact hkn
        obtain ⟨gb, cap2, e2, hown, -, -, -, -, pc, -⟩ := ROWk.out.page hkL
        injection e2 with e2 _ e3
        subst e2
        subst e3
        have GD := hid (GOODS.out _ (List.getElem_mem hkL))
        have TX := hid (TXTS.out _ (List.getElem_mem hkL))
        have WG := hid (fun h0 => WA.out.good (k := k) (by rw [List.length_map]; exact hkL) h0)
        have WB := hid (fun h0 => WA.out.bad (k := k) (by rw [List.length_map]; exact hkL) h0)
        have hgm : (L.map txtP)[k]'(by rw [List.length_map]; exact hkL) = txtP L[k] := List.getElem_map _
        rw [hgm] at WG WB
        obtain ⟨pg, hpg⟩ : ∃ pg, L[k] = pg := ⟨_, rfl⟩
        rw [hpg] at pc GD TX WG WB
        have TN := hid (show T.next ≤ 1000000 by have := WA.out.next; have := HNX.out; have := HN16.out; omega)
        have WC := hid (rwrite_any ST.out WA.out.up TN.out pg GD.out.ints TX.out)
        unfold RWritePost at WC
        obtain ⟨R, hR⟩ : ∃ R, writeP G T (txtP pg) = R := ⟨_, rfl⟩
        rw [hR] at WC WG WB
        obtain ⟨G2, T2, er⟩ := R
        dsimp only at WC WG WB
        have WC := hid (show Calls Tryz.prog 48 #[.pointer (some ⟨x, 0, none⟩), .agg (pgC pg)] wr fun e w' => e = .returned (.int .i64 er) ∧ RStAt w' O x p q g' G2 T2 vr va ∧ Sto O wr w' from WC.out)
        obtain ⟨d0, d1, d2, d3, d4, d5, d6⟩ := pc
        clear hgm hpg hR hown hkL
        go_wp2_with fail
        refine WC.out.mono ?_
        rintro e w5 ⟨rfl, st5, u5⟩
        have ST5 := hid st5; have U5 := hid (U.out.then u5)
        clear st5 u5 WC d0 d1 d2 d3 d4 d5 d6
        by_cases her : er = 0
        case pos =>
          subst her
          have WN := hid (WG.out rfl)
          clear WG WB
          go_wp2_with fail
          go_roundg (n - (k + 1))
          case measure => have := HG.out; omega
          case rel => exact ⟨k + 1, G2, T2, by go_num, hkn, rfl, WN.out, ST5.out, U5.out⟩
        case neg =>
          have g1 : (er != 0) = true := by rw [bne_iff_ne]; exact her
          have WX := hid (WB.out her)
          have R := hid (append_bad LT.out H4.out HB.out (by rw [WX.out]; exact her))
          clear WG WB
          go_wp2_with fail
          go_ret
          rw [R.out, WX.out]
          exact ⟨rfl, ⟨O, vr, va, ST5.out, fun _ => .inl⟩, (Sto.of0 (O := O) U3.out).then U5.out⟩
      case neg =>
        have hkni : ¬ (k : Int) < n := by omega
        have WE := hid (WA.out.end_ (by rw [LN.out]; omega))
        have R := hid (append_good LT.out H4.out HB.out WE.out)
        have er := WA.out.recs; have ea := WA.out.ats
        obtain ⟨T1, T2, T3, T4⟩ := T
        dsimp only at er ea
        subst er
        subst ea
        obtain ⟨ar, cr, rfl, _, _⟩ := ST.out.recs.fits
        obtain ⟨aa, ca, rfl, _, _⟩ := ST.out.ats.fits
        have hrl := OK.out.len
        have hsm := OK.out.same
        have RLN := hid (show S.recs.length ≤ 900000 ∧ S.ats.length ≤ 900000 from by unfold St.len at hrl; omega)
        have rl : (S.recs.length : Int) ≤ 900000 := by have := RLN.out; omega
        have al : (S.ats.length : Int) ≤ 900000 := by have := RLN.out; omega
        clear hrl hsm
        obtain ⟨⟨c0, c1, c2, c3, c4, c5, c6⟩, hf⟩ := ST.out.cells
        obtain ⟨a4, c4', w4, r4, hx4, ⟨O4, st4, ho4⟩, u4⟩ := ST.out.app1 r (by show S.recs.length + 1 ≤ 1000000; have := RLN.out; omega) 50
        have r4 : (Builtin.append_ #[50, 50] 50 #[.slice ar S.recs.length cr, .slice (some ⟨wr.heap.size, 0, none⟩) 1 1]).run Tryz.prog (wr.alloc (.cells #[.string ⟨r.toArray⟩] 9 (0, 0))) = .ok (.slice a4 (S.recs.length + 1) c4') w4 := r4
        have ST4 := hid st4; have U4 := hid (UALL.out.then u4); have HO4 := hid (show ∀ k, O4 k → O k ∨ w.heap.size ≤ k from fun k hk => (ho4 k hk).imp id fun h => Nat.le_trans UALL.out.size h)
        have z5 : w4.cell? ⟨x, 5, none⟩ = some (.slice ar S.recs.length cr) := by rw [cell_of_block hx4]; rfl
        have zf : ∀ o, w4.frozen? ⟨x, o, none⟩ = false := fun o => frozen_of_block hx4
        clear st4 u4 ho4 hx4
        go_upto_region 14 with (at_builtin; refine wpList_append_run rfl _ _ _ _ rfl rfl rfl r4 ?_)
        clear r4 z5 zf c0 c1 c2 c3 c4 c5 c6 hf
        obtain ⟨w5, hw5⟩ : ∃ w5, w4.setCell ⟨x, 5, none⟩ (.slice a4 (S.recs.length + 1) c4') = w5 := ⟨_, rfl⟩
        have ST5 := hid (show RStAt w5 O4 x p q g' G ⟨T1, T2, S.recs ++ [r], S.ats⟩ (.slice a4 (S.recs.length + 1) c4') (.slice aa S.ats.length ca) from by rw [← hw5]; exact ST4.out)
        have U5 := hid (show Sto O w w5 from by rw [← hw5]; exact U4.out)
        rw [hw5]
        clear hw5 ST4 U4
        obtain ⟨⟨c0, c1, c2, c3, c4, c5, c6⟩, hf⟩ := ST5.out.cells
        obtain ⟨a6, c6', w6, r6, hx6, ⟨O6, st6, ho6⟩, u6⟩ := ST5.out.app2 S.next (by show S.ats.length + 1 ≤ 1000000; have := RLN.out; omega) 51
        have r6 : (Builtin.append_ #[51, 51] 51 #[.slice aa S.ats.length ca, .slice (some ⟨w5.heap.size, 0, none⟩) 1 1]).run Tryz.prog (w5.alloc (.cells #[.int .i64 S.next] 3 (0, 0))) = .ok (.slice a6 (S.ats.length + 1) c6') w6 := r6
        have ST6 := hid st6; have U6 := hid (grow_trans HO4.out U5.out u6); have HO6 := hid (show ∀ k, O6 k → O k ∨ w.heap.size ≤ k from fun k hk => (ho6 k hk).elim (HO4.out k) fun h => .inr (Nat.le_trans U5.out.size h))
        have z6 : w6.cell? ⟨x, 6, none⟩ = some (.slice aa S.ats.length ca) := by rw [cell_of_block hx6]; rfl
        have zf : ∀ o, w6.frozen? ⟨x, o, none⟩ = false := fun o => frozen_of_block hx6
        clear st6 u6 ho6 hx6
        go_wp2_with (at_builtin; refine wpList_append_run rfl _ _ _ _ rfl rfl rfl r6 ?_)
        go_ret
        rw [R.out]
        exact ⟨rfl, ⟨O6, _, _, ST6.out, HO6.out⟩, U6.out⟩
end
end Go.Proofs.YtlefilfdomjkeaaGreatDoor
namespace Go.Proofs.YtlefilfdomjkeaaGreatDoor
open Go.RowKit Go.Deep
/-- The rest of an own row, from m on, into a new one. -/
theorem tail_new {P : Program} {t e : TypeId} {bytes : Nat} (T : ElemTy P t e 1 bytes) (hb : bytes ≤ 100) {w : World} {g n c m : Nat} {xs : List Value} (h : Own1 e w (.slice (some ⟨g, 0, none⟩) n c) n xs) (h1 : ∀ u ∈ xs, u.oneCell' = true) (hm : m ≤ n) (hn : n ≤ 1000000) (ty : TypeId) :
    (c = m → ∃ v' w', (Builtin.append_ #[t, t] ty #[.slice (some ⟨w.heap.size, 0, none⟩) 0 0, .slice (some ⟨g, 0, none⟩) 0 0]).run P (w.alloc (.cells #[] e (0, 0))) = .ok v' w' ∧ Own1 e w' v' (n - m) (xs.drop m) ∧ (∀ g, v'.ownBlock = some g → w.heap.size ≤ g) ∧ Upd (fun _ => False) w w') ∧
    ∃ v' w', (Builtin.append_ #[t, t] ty #[.slice (some ⟨w.heap.size, 0, none⟩) 0 0, .slice (some ⟨g, m, none⟩) (n - m) (c - m)]).run P (w.alloc (.cells #[] e (0, 0))) = .ok v' w' ∧ Own1 e w' v' (n - m) (xs.drop m) ∧ (∀ g, v'.ownBlock = some g → w.heap.size ≤ g) ∧ Upd (fun _ => False) w w' := by
  have hx : xs.length = n := by simpa using h.own.1
  have hc : n ≤ c := by
    rcases ownsRow_fits h.own with ⟨e0, _⟩ | ⟨g', cap, e0, _, _, h2, _⟩
    · injection e0 with e0; cases e0
    · injection e0 with _ _ e0; omega
  have hcell := h.own.cells (g := g) rfl
  refine ⟨fun e0 => ?_, ?_⟩
  · have e1 : n - m = 0 := by omega
    have e2 : xs.drop m = [] := List.drop_eq_nil_of_le (by omega)
    rw [e1, e2]
    exact app_new T hb w ⟨g, 0, none⟩ 0 0 [] rfl (fun j u hu => by cases hu) (fun u hu => nomatch hu) (by decide) ty
  · refine app_new T hb w ⟨g, m, none⟩ (n - m) (c - m) (xs.drop m) (by rw [List.length_drop, hx]) (fun j u hu => ?_) (fun u hu => h1 u (List.mem_of_mem_drop hu)) (by omega) ty
    rw [List.getElem?_drop] at hu
    have := hcell (m + j) u hu
    have e1 : Addr.add ⟨g, m, none⟩ j = ⟨g, m + j, none⟩ := by unfold Addr.add; split <;> simp_all
    have e2 : Addr.add ⟨g, 0, none⟩ (m + j) = ⟨g, m + j, none⟩ := by unfold Addr.add; split <;> simp_all
    rw [e1]; rw [e2] at this; exact this
theorem writeP_fail {F : Fl} {S : St} {s : List UInt8} (h : (writeP F S s).2.2 ≠ 0) : (writeP F S s).2.1 = S := by
  have pr : ∀ G : Fl, (progP G S s).2.2 ≠ 0 → (progP G S s).2.1 = S := fun G h => by
    unfold progP at h ⊢
    split at h
    · exact absurd rfl h
    · rename_i h1; rw [if_neg h1]
  unfold writeP at h ⊢
  split at h
  · rename_i h1
    rw [if_pos h1]
    split at h
    · rename_i h2; rw [if_pos h2]; exact pr _ h
    · rename_i h2; rw [if_neg h2]
  · rename_i h1; rw [if_neg h1]; exact pr _ h
section
variable {w : World} {O : Nat → Prop} {x p q : Nat} {g' : Nat → Nat} {F : Fl} {S : St} {vr va : Value}
set_option maxRecDepth 100000 in
set_option maxHeartbeats 4000000 in
theorem rdrop_any (h : RStAt w O x p q g' F S vr va) (ok : StOk S) (hd : F.down = false) (n : Int) (hn : I64 n) :
    Calls Tryz.prog 15 #[.pointer (some ⟨x, 0, none⟩), .int .i64 n] w (RCallPost O x p q g' (dropP F S n) w) := by
  have hn1 := hn.1; have hn2 := hn.2
  obtain ⟨ar, cr, rfl, hr1, hr2⟩ := h.recs.fits
  obtain ⟨aa, ca, rfl, ha1, ha2⟩ := h.ats.fits
  have hr2 : cr ≤ 9223372036854775807 := hr2
  have ha2 : ca ≤ 9223372036854775807 := ha2
  have H := hid h; have OK := hid ok; have HD := hid hd
  have hlen := ok.len
  have RL := hid (show S.recs.length ≤ 900000 ∧ S.ats.length = S.recs.length from ⟨by unfold St.len at hlen; omega, ok.same⟩)
  have hli : (S.recs.length : Int) ≤ 900000 := by have := RL.out; omega
  obtain ⟨⟨c0, c1, c2, c3, c4, c5, c6⟩, hf⟩ := h.cells
  clear h ok hd hlen
  by_cases hneg : n < 0
  case pos =>
    have R := hid (show dropP F S n = (F, S, 1) by unfold dropP; rw [if_pos (.inl hneg)])
    have hnd : decide (n < 0) = true := decide_eq_true hneg
    go_enter Tryz.func15, Tryz.ntmps15
    go_wp2_with fail
    go_ret
    exact rcall_same H.out (Upd.refl _ _) R.out
  have hnd : decide (n < 0) = false := decide_eq_false hneg
  by_cases hbig : (S.recs.length : Int) < n
  case pos =>
    have R := hid (show dropP F S n = (F, S, 1) by unfold dropP; rw [if_pos (.inr hbig)])
    go_enter Tryz.func15, Tryz.ntmps15
    go_wp2_with fail
    go_ret
    exact rcall_same H.out (Upd.refl _ _) R.out
  have hin : ¬ (n < 0 ∨ (S.recs.length : Int) < n) := by rintro (h | h) <;> omega
  by_cases hz : n = 0
  case pos =>
    have R := hid (show dropP F S n = (F, S, 0) by unfold dropP; rw [if_neg hin, if_pos hz])
    rw [hz] at R
    subst hz
    clear hin
    go_enter Tryz.func15, Tryz.ntmps15
    go_wp2_with fail
    go_ret
    exact rcall_same H.out (Upd.refl _ _) R.out
  obtain ⟨m, rfl⟩ := Int.eq_ofNat_of_zero_le (show 0 ≤ n by omega)
  have hm0 : 0 < m := by omega
  have hml : m ≤ S.recs.length := by omega
  have HM := hid (show 0 < m ∧ m ≤ S.recs.length from ⟨hm0, hml⟩)
  have hmi : (m : Int) ≤ 900000 := by omega
  have hzi : ¬ (m : Int) = 0 := hz
  have hzb : ((m : Int) == 0) = false := beq_eq_false_iff_ne.2 hz
  have DP := hid (show dropP F S (m : Int) = if fitsP F S S.next = false then (F, S, 6) else if (writeP F S (txtP (dropPg S m))).2.2 = 0 then ((writeP F S (txtP (dropPg S m))).1, ⟨S.first + m, (writeP F S (txtP (dropPg S m))).2.1.next, S.recs.drop m, S.ats.drop m⟩, 0) else ((writeP F S (txtP (dropPg S m))).1, S, (writeP F S (txtP (dropPg S m))).2.2) from by
    unfold dropP; rw [if_neg hin, if_neg hz]; rfl)
  have hnx := OK.out.next
  have NX := hid (show S.next ≤ 1000000 ∧ S.next ≤ 2000000 by omega)
  obtain ⟨b, hb⟩ : ∃ b, fitsP F S S.next = b := ⟨_, rfl⟩
  have FC := hid (rfits_any H.out OK.out S.next NX.out.2)
  rw [hb] at FC
  have HB := hid hb
  clear hin hz hb hnx hn hn1 hn2
  go_enter Tryz.func15, Tryz.ntmps15
  go_wp2_with fail
  refine FC.out.mono ?_
  rintro e w3 ⟨rfl, u3⟩
  have ST3 := hid (H.out.upd0 u3); have U3 := hid u3
  clear FC u3 c0 c1 c2 c3 c4 c5 c6 hf
  cases b with
  | false =>
    have R := hid (DP.out.trans (if_pos HB.out))
    go_wp2_with fail
    go_ret
    exact rcall_same H.out U3.out R.out
  | true =>
    have DP2 := hid (DP.out.trans (if_neg (by rw [HB.out]; decide)))
    obtain ⟨dl, hdl⟩ : ∃ dl, S.recs.length - m = dl := ⟨_, rfl⟩
    obtain ⟨sl, hsl⟩ : ∃ sl, S.len = sl := ⟨_, rfl⟩
    have hdp : dropPg S m = ⟨1, S.next, sl, dl, 0, 0, []⟩ := by unfold dropPg; rw [hdl, hsl]
    have LC := hid (fun (wq : World) (u : Upd (fun _ => False) w wq) => (show Calls Tryz.prog 22 #[.pointer (some ⟨x, 0, none⟩)] wq fun e w' => e = .returned (.int .i64 (sl : Int)) ∧ Upd (fun _ => False) wq w' from by rw [← hsl]; exact rlen_any (H.out.upd0 u) OK.out))
    have f1 : (S.recs.length : Int) - m = dl := by omega
    have dli : (dl : Int) ≤ 900000 := by omega
    have DLB := hid (show dl ≤ 1000000000 by omega)
    rw [hdp] at DP2
    have hpi : PgI ⟨1, S.next, sl, dl, 0, 0, []⟩ := by
      have h1 := NX.out.1; have h2 := OK.out.len
      refine ⟨?_, ?_, ?_, ?_, ?_, ?_⟩ <;> unfold I64 <;> dsimp only <;> omega
    have htx : (txtP ⟨1, S.next, sl, dl, 0, 0, []⟩).length ≤ 1000000 := by
      have := hdr_126 hpi; unfold txtP; rw [List.length_append]; show _ + 0 ≤ _; omega
    have WCC := hid (fun (wq : World) (st : RStAt wq O x p q g' F S (.slice ar S.recs.length cr) (.slice aa S.ats.length ca)) => rwrite_any st HD.out NX.out.1 ⟨1, S.next, sl, dl, 0, 0, []⟩ hpi htx)
    obtain ⟨R, hR⟩ : ∃ R, writeP F S (txtP ⟨1, S.next, sl, dl, 0, 0, []⟩) = R := ⟨_, rfl⟩
    have WST := hid (writeP_st F S (txtP ⟨1, S.next, sl, dl, 0, 0, []⟩))
    have WFA := hid (writeP_fail (F := F) (S := S) (s := txtP ⟨1, S.next, sl, dl, 0, 0, []⟩))
    unfold RWritePost at WCC
    rw [hR] at WCC DP2 WST WFA
    obtain ⟨G, T, er⟩ := R
    dsimp only at WCC DP2 WST WFA
    have WC := hid (fun (wq : World) (st : RStAt wq O x p q g' F S (.slice ar S.recs.length cr) (.slice aa S.ats.length ca)) => (show Calls Tryz.prog 48 #[.pointer (some ⟨x, 0, none⟩), .agg #[.int .i64 1, .int .i64 S.next, .int .i64 sl, .int .i64 dl, .int .i64 0, .int .i64 0, .string ⟨#[]⟩]] wq fun e w' => e = .returned (.int .i64 er) ∧ RStAt w' O x p q g' G T (.slice ar S.recs.length cr) (.slice aa S.ats.length ca) ∧ Sto O wq w' from WCC.out wq st))
    have SHOW := hid (fun (wq : World) (u : Upd (fun _ => False) w3 wq) => (show wq.cell? ⟨x, 4, none⟩ = some (.int .i64 S.next) ∧ wq.cell? ⟨x, 5, none⟩ = some (.slice ar S.recs.length cr) from ⟨(ST3.out.upd0 u).cells.1.2.2.2.2.1, (ST3.out.upd0 u).cells.1.2.2.2.2.2.1⟩))
    clear WCC hR hpi htx hdp hsl hdl
    go_upto_region 7 with (fail)
    refine wp_region_g (fun w' => w'.cell? ⟨x, 4, none⟩ = some (.int .i64 S.next) ∧ w'.cell? ⟨x, 5, none⟩ = some (.slice ar S.recs.length cr)) 15 (by kernel_rfl) ?_
    obtain ⟨Wd, hWd⟩ : ∃ Wd, w3.drew = Wd := ⟨_, rfl⟩
    have UD := hid (show Upd (fun _ => False) w3 Wd by rw [← hWd]; exact (Upd.refl _ _).drew)
    rw [hWd]
    clear hWd
    have hS := SHOW.out Wd UD.out
    obtain ⟨w1a, w1b⟩ := wrap_nat DLB.out
    refine g_take0 (i := 0) rfl (by kernel_rfl) (by kernel_rfl) (by kernel_rfl) (by decide) (fun _ _ _ h => h) (Or.inl ⟨by kernel_rfl, by (intro w _; go_simp; try with_reducible rfl)⟩) (fun _ => hS) ?_
    (try go_frame)
    refine g_take0 (i := 1) rfl (by kernel_rfl) (by kernel_rfl) (by kernel_rfl) (by decide) (fun _ _ _ h => h) (Or.inl ⟨by kernel_rfl, by (intro w _; go_simp; try with_reducible rfl)⟩) (fun _ => hS) ?_
    (try go_frame)
    refine g_take0 (i := 2) rfl (by kernel_rfl) (by kernel_rfl) (by kernel_rfl) (by decide) (fun _ _ _ h => h) (Or.inl ⟨by kernel_rfl, by (intro w _; go_simp; try with_reducible rfl)⟩) (fun _ => hS) ?_
    (try go_frame)
    refine g_take0 (i := 3) rfl (by kernel_rfl) (by kernel_rfl) (by kernel_rfl) (by decide) (fun _ _ _ h => h) (Or.inl ⟨by kernel_rfl, by (intro w _; go_simp; try with_reducible rfl)⟩) (fun _ => hS) ?_
    (try go_frame)
    refine g_takeP [15, 14] (i := 4) (v := .int .i64 S.next) rfl (by kernel_rfl) (by kernel_rfl) (by kernel_rfl) (by kernel_rfl) (fun _ _ _ h => h) (Or.inl ⟨by kernel_rfl, by (intro w hSw; (try dsimp only at hSw); obtain ⟨z0, z1⟩ := hSw; go_simp; try with_reducible rfl)⟩) hS ?_
    (try go_frame)
    refine g_take0 (i := 5) rfl (by kernel_rfl) (by kernel_rfl) (by kernel_rfl) (by decide) (fun _ _ _ h => h) (Or.inl ⟨by kernel_rfl, by (intro w _; go_simp; try with_reducible rfl)⟩) (fun _ => hS) ?_
    (try go_frame)
    refine g_take0 (i := 7) rfl (by kernel_rfl) (by kernel_rfl) (by kernel_rfl) (by decide) (fun _ _ _ h => h) (Or.inl ⟨by kernel_rfl, by (intro w _; go_simp; try with_reducible rfl)⟩) (fun _ => hS) ?_
    (try go_frame)
    refine g_take0 (i := 8) rfl (by kernel_rfl) (by kernel_rfl) (by kernel_rfl) (by decide) (fun _ _ _ h => h) (Or.inl ⟨by kernel_rfl, by (intro w _; go_simp; try with_reducible rfl)⟩) (fun _ => hS) ?_
    (try go_frame)
    refine g_take0 (i := 9) rfl (by kernel_rfl) (by kernel_rfl) (by kernel_rfl) (by decide) (fun _ _ _ h => h) (Or.inl ⟨by kernel_rfl, by (intro w _; go_simp; try with_reducible rfl)⟩) (fun _ => hS) ?_
    (try go_frame)
    refine g_takeP [15, 14, 13, 11] (i := 10) (v := .slice ar S.recs.length cr) rfl (by kernel_rfl) (by kernel_rfl) (by kernel_rfl) (by kernel_rfl) (fun _ _ _ h => h) (Or.inl ⟨by kernel_rfl, by (intro w hSw; (try dsimp only at hSw); obtain ⟨z0, z1⟩ := hSw; go_simp; try with_reducible rfl)⟩) hS ?_
    (try go_frame)
    refine g_take0 (i := 11) (v := .int .i64 (S.recs.length : Int)) rfl (by kernel_rfl) (by kernel_rfl) (by kernel_rfl) (by decide) (fun _ _ _ h => h) (Or.inl ⟨by kernel_rfl, by (intro w _; go_simp; try with_reducible rfl)⟩) (fun _ => hS) ?_
    (try go_frame)
    refine g_take0 (i := 12) rfl (by kernel_rfl) (by kernel_rfl) (by kernel_rfl) (by decide) (fun _ _ _ h => h) (Or.inl ⟨by kernel_rfl, by (intro w _; go_simp; try with_reducible rfl)⟩) (fun _ => hS) ?_
    (try go_frame)
    refine g_take0 (i := 13) (v := .int .i64 (dl : Int)) rfl (by kernel_rfl) (by kernel_rfl) (by kernel_rfl) (by decide) (fun _ _ _ h => h) (Or.inl ⟨by kernel_rfl, by (intro w _; go_simp; try with_reducible rfl)⟩) (fun _ => hS) ?_
    (try go_frame)
    refine g_op (i := 6) (by kernel_rfl) rfl ?_
    go_wp2_with fail
    refine (LC.out _ (U3.out.trans UD.out)).mono ?_
    rintro e W1 ⟨rfl, u_⟩
    have U1 := hid (UD.out.trans u_)
    clear u_ hS w1a w1b
    have hS1 := SHOW.out W1 U1.out
    go_wp2_with fail
    first | (refine ⟨fun _ => hS1, ?_⟩) | (refine ⟨hS1, ?_⟩)
    (try go_frame)
    refine g_take0 (i := 14) rfl (by kernel_rfl) (by kernel_rfl) (by kernel_rfl) (by decide) (fun _ _ _ h => h) (Or.inl ⟨by kernel_rfl, by (intro w _; go_simp; try with_reducible rfl)⟩) (fun _ => hS1) ?_
    (try go_frame)
    refine g_op (i := 15) (by kernel_rfl) rfl ?_
    go_wp2_with fail
    refine (WC.out _ (ST3.out.upd0 U1.out)).mono ?_
    rintro e w5 ⟨rfl, st5, u5⟩
    have ST5 := hid st5; have U5 := hid ((Sto.of0 (O := O) (U3.out.trans U1.out)).then u5)
    clear st5 u5 WC LC SHOW hS1
    go_wp2_with fail
    refine ⟨fun h => (Bool.false_ne_true (h.symm.trans (by kernel_rfl))).elim, ?_⟩
    (try go_frame)
    refine g_op (i := 16) (by kernel_rfl) rfl ?_
    go_wp2_with fail
    refine ⟨fun h => (Bool.false_ne_true (h.symm.trans (by kernel_rfl))).elim, ?_⟩
    (try go_frame)
    refine g_done (by kernel_rfl) ?_
    clear f1 dli
    by_cases her : er = 0
    case neg =>
      have g1 : (er == 0) = false := beq_eq_false_iff_ne.2 her
      have R := hid (DP2.out.trans (if_neg her))
      have HX := hid (show ∃ O' vr va, RStAt w5 O' x p q g' G S vr va ∧ ∀ k, O' k → O k ∨ w.heap.size ≤ k from ⟨O, _, _, by have := ST5.out; rw [WFA.out her] at this; exact this, fun _ => .inl⟩)
      go_wp2_with fail
      go_ret
      rw [R.out]
      exact ⟨rfl, HX.out, U5.out⟩
    subst her
    have R := hid (DP2.out.trans (if_pos rfl))
    obtain ⟨T1, nx, T3, T4⟩ := T
    obtain ⟨t1, t3, t4, _⟩ := WST.out
    dsimp only at t1 t3 t4
    subst t1
    subst t3
    subst t4
    have hfi : (S.first : Int) ≤ 900000 := by have := OK.out.len; unfold St.len at this; omega
    obtain ⟨fn, hfn⟩ : ∃ fn, S.first + m = fn := ⟨_, rfl⟩
    have f2 : (S.first : Int) + m = fn := by omega
    have fni : (fn : Int) ≤ 1800000 := by omega
    rw [hfn] at R
    clear hfn WST DP2 WFA
    obtain ⟨⟨c0, c1, c2, c3, c4, c5, c6⟩, hf⟩ := ST5.out.cells
    have u6 : Upd (· = x) w5 (w5.setCell ⟨x, 3, none⟩ (.int .i64 (fn : Int))) := (Upd.refl (· = x) w5).at_ 3 _
    have ST6 := hid (ST5.out.headed (S' := ⟨fn, nx, S.recs, S.ats⟩) u6 (rstore_first ST5.out.head fn) rfl rfl)
    have U6 := hid (U5.out.then (ST5.out.ux u6))
    obtain ⟨w6, hw6⟩ : ∃ w6, w5.setCell ⟨x, 3, none⟩ (.int .i64 (fn : Int)) = w6 := ⟨_, rfl⟩
    rw [hw6] at ST6 U6
    have HW6 := hid hw6
    clear hw6 u6
    go_upto_region 10 with (fail)
    rw [HW6.out]
    clear HW6 c0 c1 c2 c3 c4 c5 c6 hf f2 fni
    obtain ⟨gr, capr, er, _, _, _, _, _⟩ := ST6.out.recs.cell (by have := HM.out; show 0 < S.recs.length; omega)
    obtain ⟨ga, capa, ea, _, _, _, _, _⟩ := ST6.out.ats.cell (by have := HM.out; have := RL.out; show 0 < S.ats.length; omega)
    injection er with er _ er2
    injection ea with ea _ ea2
    subst er
    subst er2
    subst ea
    subst ea2
    have LA := hid (show m ≤ S.ats.length ∧ S.ats.length ≤ 1000000 from by have := HM.out; have := RL.out; omega)
    have hal : (S.ats.length : Int) ≤ 900000 := by have := RL.out; omega
    have mal : m ≤ S.ats.length := LA.out.1
    have mali : (m : Int) ≤ S.ats.length := by omega
    have mli : (m : Int) ≤ S.recs.length := by omega
    have mci : (m : Int) ≤ cr := by omega
    have mai : (m : Int) ≤ ca := by omega
    obtain ⟨tr1, tr2⟩ := tail_new elemS (by decide) ST6.out.recs (strV_one S.recs) hml (by have := RL.out; show S.recs.length ≤ _; omega) 50
    have TR1 := hid tr1; have TR2 := hid tr2
    clear tr1 tr2
    by_cases hcr : cr = m
    case pos =>
      subst hcr
      by_cases hca : ca = cr
      case pos =>
        subst hca
        as_aux_lemma =>
          obtain ⟨v7, w7, r7, o7, n7, u7⟩ := TR1.out rfl
          obtain ⟨nr, hnr⟩ : ∃ z, S.recs.length - ca = z := ⟨_, rfl⟩
          have o7 : Own1 9 w7 v7 nr ((S.recs.map strV).drop ca) := by rw [← hnr]; exact o7
          obtain ⟨a7, c7, rfl, _, _⟩ := o7.fits
          have HNR := hid hnr
          have hx7 : w7.heap[x]? = some (.cells (stC p G ⟨fn, nx, S.recs, S.ats⟩ (.slice (some ⟨gr, 0, none⟩) S.recs.length ca) (.slice (some ⟨ga, 0, none⟩) S.ats.length ca)) 53 (0, 0)) := (u7.block x (heap_lt ST6.out.head) id).trans ST6.out.head
          obtain ⟨⟨O8, st8, ho8⟩, u8⟩ := ST6.out.recs_put (l' := S.recs.drop ca) (v' := .slice a7 nr c7) (.of0 u7) (by unfold OwnS; rw [List.length_drop, List.map_drop, hnr]; exact o7) fun g hg => .inr (n7 g hg)
          obtain ⟨⟨c0, c1, c2, c3, c4, c5, c6⟩, hf⟩ := ST6.out.cells
          have hxl : x < w6.heap.size := heap_lt ST6.out.head
          have z5 : w7.cell? ⟨x, 5, none⟩ = some (.slice (some ⟨gr, 0, none⟩) S.recs.length ca) := by rw [cell_of_block hx7]; rfl
          have zf : ∀ o, w7.frozen? ⟨x, o, none⟩ = false := fun o => frozen_of_block hx7
          have ST8 := hid st8; have HO8 := hid (show ∀ k, O8 k → O k ∨ w.heap.size ≤ k from fun k hk => (ho8 k hk).imp id fun h => Nat.le_trans U6.out.size h); have U8 := hid (U6.out.then u8)
          clear st8 ho8 u8 o7 n7 u7 hx7 TR1 TR2 hnr
          go_upto_region 11 with (at_builtin; refine wpList_append_run rfl _ _ _ _ rfl rfl rfl r7 ?_)
          clear r7 z5 zf hxl c0 c1 c2 c3 c4 c5 c6 hf
          obtain ⟨w8, hw8⟩ : ∃ w8, w7.setCell ⟨x, 5, none⟩ (.slice a7 nr c7) = w8 := ⟨_, rfl⟩
          rw [hw8] at ST8 U8 ⊢
          clear hw8
          obtain ⟨ta1, ta2⟩ := tail_new elemI (by decide) ST8.out.ats (natV_one S.ats) mal LA.out.2 51
          have TA1 := hid ta1; have TA2 := hid ta2
          clear ta1 ta2
          obtain ⟨v9, w9, r9, o9, n9, u9⟩ := TA1.out rfl
          obtain ⟨na, hna⟩ : ∃ z, S.ats.length - ca = z := ⟨_, rfl⟩
          have o9 : Own1 3 w9 v9 na ((S.ats.map natV).drop ca) := by rw [← hna]; exact o9
          obtain ⟨a9, c9, rfl, _, _⟩ := o9.fits
          have HNA := hid hna
          have hx9 : w9.heap[x]? = some (.cells (stC p G ⟨fn, nx, S.recs.drop ca, S.ats⟩ (.slice a7 nr c7) (.slice (some ⟨ga, 0, none⟩) S.ats.length ca)) 53 (0, 0)) := (u9.block x (heap_lt ST8.out.head) id).trans ST8.out.head
          obtain ⟨⟨O10, st10, ho10⟩, u10⟩ := ST8.out.ats_put (l' := S.ats.drop ca) (v' := .slice a9 na c9) (.of0 u9) (by unfold OwnN; rw [List.length_drop, List.map_drop, hna]; exact o9) fun g hg => .inr (n9 g hg)
          obtain ⟨⟨c0, c1, c2, c3, c4, c5, c6⟩, hf⟩ := ST8.out.cells
          have hxl : x < w8.heap.size := heap_lt ST8.out.head
          have z6 : w9.cell? ⟨x, 6, none⟩ = some (.slice (some ⟨ga, 0, none⟩) S.ats.length ca) := by rw [cell_of_block hx9]; rfl
          have zf : ∀ o, w9.frozen? ⟨x, o, none⟩ = false := fun o => frozen_of_block hx9
          have ST10 := hid st10; have HO10 := hid (show ∀ k, O10 k → O k ∨ w.heap.size ≤ k from fun k hk => (ho10 k hk).elim (HO8.out k) fun h => .inr (Nat.le_trans U8.out.size h)); have U10 := hid (grow_trans HO8.out U8.out u10)
          clear st10 ho10 u10 o9 n9 u9 hx9 TA1 TA2 hna
          go_wp2_with (at_builtin; refine wpList_append_run rfl _ _ _ _ rfl rfl rfl r9 ?_)
          go_ret
          rw [R.out]
          exact ⟨rfl, ⟨O10, _, _, ST10.out, HO10.out⟩, U10.out⟩
      case neg =>
        have hcan : ¬ ((ca : Int) = cr) := by omega
        as_aux_lemma =>
          obtain ⟨v7, w7, r7, o7, n7, u7⟩ := TR1.out rfl
          obtain ⟨nr, hnr⟩ : ∃ z, S.recs.length - cr = z := ⟨_, rfl⟩
          have o7 : Own1 9 w7 v7 nr ((S.recs.map strV).drop cr) := by rw [← hnr]; exact o7
          obtain ⟨a7, c7, rfl, _, _⟩ := o7.fits
          have HNR := hid hnr
          have hx7 : w7.heap[x]? = some (.cells (stC p G ⟨fn, nx, S.recs, S.ats⟩ (.slice (some ⟨gr, 0, none⟩) S.recs.length cr) (.slice (some ⟨ga, 0, none⟩) S.ats.length ca)) 53 (0, 0)) := (u7.block x (heap_lt ST6.out.head) id).trans ST6.out.head
          obtain ⟨⟨O8, st8, ho8⟩, u8⟩ := ST6.out.recs_put (l' := S.recs.drop cr) (v' := .slice a7 nr c7) (.of0 u7) (by unfold OwnS; rw [List.length_drop, List.map_drop, hnr]; exact o7) fun g hg => .inr (n7 g hg)
          obtain ⟨⟨c0, c1, c2, c3, c4, c5, c6⟩, hf⟩ := ST6.out.cells
          have hxl : x < w6.heap.size := heap_lt ST6.out.head
          have z5 : w7.cell? ⟨x, 5, none⟩ = some (.slice (some ⟨gr, 0, none⟩) S.recs.length cr) := by rw [cell_of_block hx7]; rfl
          have zf : ∀ o, w7.frozen? ⟨x, o, none⟩ = false := fun o => frozen_of_block hx7
          have ST8 := hid st8; have HO8 := hid (show ∀ k, O8 k → O k ∨ w.heap.size ≤ k from fun k hk => (ho8 k hk).imp id fun h => Nat.le_trans U6.out.size h); have U8 := hid (U6.out.then u8)
          clear st8 ho8 u8 o7 n7 u7 hx7 TR1 TR2 hnr
          go_upto_region 11 with (at_builtin; refine wpList_append_run rfl _ _ _ _ rfl rfl rfl r7 ?_)
          clear r7 z5 zf hxl c0 c1 c2 c3 c4 c5 c6 hf
          obtain ⟨w8, hw8⟩ : ∃ w8, w7.setCell ⟨x, 5, none⟩ (.slice a7 nr c7) = w8 := ⟨_, rfl⟩
          rw [hw8] at ST8 U8 ⊢
          clear hw8
          obtain ⟨ta1, ta2⟩ := tail_new elemI (by decide) ST8.out.ats (natV_one S.ats) mal LA.out.2 51
          have TA1 := hid ta1; have TA2 := hid ta2
          clear ta1 ta2
          obtain ⟨v9, w9, r9, o9, n9, u9⟩ := TA2.out
          obtain ⟨na, hna⟩ : ∃ z, S.ats.length - cr = z := ⟨_, rfl⟩
          have o9 : Own1 3 w9 v9 na ((S.ats.map natV).drop cr) := by rw [← hna]; exact o9
          obtain ⟨a9, c9, rfl, _, _⟩ := o9.fits
          have HNA := hid hna
          have hx9 : w9.heap[x]? = some (.cells (stC p G ⟨fn, nx, S.recs.drop cr, S.ats⟩ (.slice a7 nr c7) (.slice (some ⟨ga, 0, none⟩) S.ats.length ca)) 53 (0, 0)) := (u9.block x (heap_lt ST8.out.head) id).trans ST8.out.head
          obtain ⟨⟨O10, st10, ho10⟩, u10⟩ := ST8.out.ats_put (l' := S.ats.drop cr) (v' := .slice a9 na c9) (.of0 u9) (by unfold OwnN; rw [List.length_drop, List.map_drop, hna]; exact o9) fun g hg => .inr (n9 g hg)
          obtain ⟨⟨c0, c1, c2, c3, c4, c5, c6⟩, hf⟩ := ST8.out.cells
          have hxl : x < w8.heap.size := heap_lt ST8.out.head
          have z6 : w9.cell? ⟨x, 6, none⟩ = some (.slice (some ⟨ga, 0, none⟩) S.ats.length ca) := by rw [cell_of_block hx9]; rfl
          have zf : ∀ o, w9.frozen? ⟨x, o, none⟩ = false := fun o => frozen_of_block hx9
          have ST10 := hid st10; have HO10 := hid (show ∀ k, O10 k → O k ∨ w.heap.size ≤ k from fun k hk => (ho10 k hk).elim (HO8.out k) fun h => .inr (Nat.le_trans U8.out.size h)); have U10 := hid (grow_trans HO8.out U8.out u10)
          clear st10 ho10 u10 o9 n9 u9 hx9 TA1 TA2 hna
          go_wp2_with (at_builtin; refine wpList_append_run rfl _ _ _ _ rfl rfl rfl r9 ?_)
          go_ret
          rw [R.out]
          exact ⟨rfl, ⟨O10, _, _, ST10.out, HO10.out⟩, U10.out⟩
    case neg =>
      have hcrn : ¬ ((cr : Int) = m) := by omega
      by_cases hca : ca = m
      case pos =>
        subst hca
        as_aux_lemma =>
          obtain ⟨v7, w7, r7, o7, n7, u7⟩ := TR2.out
          obtain ⟨nr, hnr⟩ : ∃ z, S.recs.length - ca = z := ⟨_, rfl⟩
          have o7 : Own1 9 w7 v7 nr ((S.recs.map strV).drop ca) := by rw [← hnr]; exact o7
          obtain ⟨a7, c7, rfl, _, _⟩ := o7.fits
          have HNR := hid hnr
          have hx7 : w7.heap[x]? = some (.cells (stC p G ⟨fn, nx, S.recs, S.ats⟩ (.slice (some ⟨gr, 0, none⟩) S.recs.length cr) (.slice (some ⟨ga, 0, none⟩) S.ats.length ca)) 53 (0, 0)) := (u7.block x (heap_lt ST6.out.head) id).trans ST6.out.head
          obtain ⟨⟨O8, st8, ho8⟩, u8⟩ := ST6.out.recs_put (l' := S.recs.drop ca) (v' := .slice a7 nr c7) (.of0 u7) (by unfold OwnS; rw [List.length_drop, List.map_drop, hnr]; exact o7) fun g hg => .inr (n7 g hg)
          obtain ⟨⟨c0, c1, c2, c3, c4, c5, c6⟩, hf⟩ := ST6.out.cells
          have hxl : x < w6.heap.size := heap_lt ST6.out.head
          have z5 : w7.cell? ⟨x, 5, none⟩ = some (.slice (some ⟨gr, 0, none⟩) S.recs.length cr) := by rw [cell_of_block hx7]; rfl
          have zf : ∀ o, w7.frozen? ⟨x, o, none⟩ = false := fun o => frozen_of_block hx7
          have ST8 := hid st8; have HO8 := hid (show ∀ k, O8 k → O k ∨ w.heap.size ≤ k from fun k hk => (ho8 k hk).imp id fun h => Nat.le_trans U6.out.size h); have U8 := hid (U6.out.then u8)
          clear st8 ho8 u8 o7 n7 u7 hx7 TR1 TR2 hnr
          go_upto_region 11 with (at_builtin; refine wpList_append_run rfl _ _ _ _ rfl rfl rfl r7 ?_)
          clear r7 z5 zf hxl c0 c1 c2 c3 c4 c5 c6 hf
          obtain ⟨w8, hw8⟩ : ∃ w8, w7.setCell ⟨x, 5, none⟩ (.slice a7 nr c7) = w8 := ⟨_, rfl⟩
          rw [hw8] at ST8 U8 ⊢
          clear hw8
          obtain ⟨ta1, ta2⟩ := tail_new elemI (by decide) ST8.out.ats (natV_one S.ats) mal LA.out.2 51
          have TA1 := hid ta1; have TA2 := hid ta2
          clear ta1 ta2
          obtain ⟨v9, w9, r9, o9, n9, u9⟩ := TA1.out rfl
          obtain ⟨na, hna⟩ : ∃ z, S.ats.length - ca = z := ⟨_, rfl⟩
          have o9 : Own1 3 w9 v9 na ((S.ats.map natV).drop ca) := by rw [← hna]; exact o9
          obtain ⟨a9, c9, rfl, _, _⟩ := o9.fits
          have HNA := hid hna
          have hx9 : w9.heap[x]? = some (.cells (stC p G ⟨fn, nx, S.recs.drop ca, S.ats⟩ (.slice a7 nr c7) (.slice (some ⟨ga, 0, none⟩) S.ats.length ca)) 53 (0, 0)) := (u9.block x (heap_lt ST8.out.head) id).trans ST8.out.head
          obtain ⟨⟨O10, st10, ho10⟩, u10⟩ := ST8.out.ats_put (l' := S.ats.drop ca) (v' := .slice a9 na c9) (.of0 u9) (by unfold OwnN; rw [List.length_drop, List.map_drop, hna]; exact o9) fun g hg => .inr (n9 g hg)
          obtain ⟨⟨c0, c1, c2, c3, c4, c5, c6⟩, hf⟩ := ST8.out.cells
          have hxl : x < w8.heap.size := heap_lt ST8.out.head
          have z6 : w9.cell? ⟨x, 6, none⟩ = some (.slice (some ⟨ga, 0, none⟩) S.ats.length ca) := by rw [cell_of_block hx9]; rfl
          have zf : ∀ o, w9.frozen? ⟨x, o, none⟩ = false := fun o => frozen_of_block hx9
          have ST10 := hid st10; have HO10 := hid (show ∀ k, O10 k → O k ∨ w.heap.size ≤ k from fun k hk => (ho10 k hk).elim (HO8.out k) fun h => .inr (Nat.le_trans U8.out.size h)); have U10 := hid (grow_trans HO8.out U8.out u10)
          clear st10 ho10 u10 o9 n9 u9 hx9 TA1 TA2 hna
          go_wp2_with (at_builtin; refine wpList_append_run rfl _ _ _ _ rfl rfl rfl r9 ?_)
          go_ret
          rw [R.out]
          exact ⟨rfl, ⟨O10, _, _, ST10.out, HO10.out⟩, U10.out⟩
      case neg =>
        have hcan : ¬ ((ca : Int) = m) := by omega
        as_aux_lemma =>
          obtain ⟨v7, w7, r7, o7, n7, u7⟩ := TR2.out
          obtain ⟨nr, hnr⟩ : ∃ z, S.recs.length - m = z := ⟨_, rfl⟩
          have o7 : Own1 9 w7 v7 nr ((S.recs.map strV).drop m) := by rw [← hnr]; exact o7
          obtain ⟨a7, c7, rfl, _, _⟩ := o7.fits
          have HNR := hid hnr
          have hx7 : w7.heap[x]? = some (.cells (stC p G ⟨fn, nx, S.recs, S.ats⟩ (.slice (some ⟨gr, 0, none⟩) S.recs.length cr) (.slice (some ⟨ga, 0, none⟩) S.ats.length ca)) 53 (0, 0)) := (u7.block x (heap_lt ST6.out.head) id).trans ST6.out.head
          obtain ⟨⟨O8, st8, ho8⟩, u8⟩ := ST6.out.recs_put (l' := S.recs.drop m) (v' := .slice a7 nr c7) (.of0 u7) (by unfold OwnS; rw [List.length_drop, List.map_drop, hnr]; exact o7) fun g hg => .inr (n7 g hg)
          obtain ⟨⟨c0, c1, c2, c3, c4, c5, c6⟩, hf⟩ := ST6.out.cells
          have hxl : x < w6.heap.size := heap_lt ST6.out.head
          have z5 : w7.cell? ⟨x, 5, none⟩ = some (.slice (some ⟨gr, 0, none⟩) S.recs.length cr) := by rw [cell_of_block hx7]; rfl
          have zf : ∀ o, w7.frozen? ⟨x, o, none⟩ = false := fun o => frozen_of_block hx7
          have ST8 := hid st8; have HO8 := hid (show ∀ k, O8 k → O k ∨ w.heap.size ≤ k from fun k hk => (ho8 k hk).imp id fun h => Nat.le_trans U6.out.size h); have U8 := hid (U6.out.then u8)
          clear st8 ho8 u8 o7 n7 u7 hx7 TR1 TR2 hnr
          go_upto_region 11 with (at_builtin; refine wpList_append_run rfl _ _ _ _ rfl rfl rfl r7 ?_)
          clear r7 z5 zf hxl c0 c1 c2 c3 c4 c5 c6 hf
          obtain ⟨w8, hw8⟩ : ∃ w8, w7.setCell ⟨x, 5, none⟩ (.slice a7 nr c7) = w8 := ⟨_, rfl⟩
          rw [hw8] at ST8 U8 ⊢
          clear hw8
          obtain ⟨ta1, ta2⟩ := tail_new elemI (by decide) ST8.out.ats (natV_one S.ats) mal LA.out.2 51
          have TA1 := hid ta1; have TA2 := hid ta2
          clear ta1 ta2
          obtain ⟨v9, w9, r9, o9, n9, u9⟩ := TA2.out
          obtain ⟨na, hna⟩ : ∃ z, S.ats.length - m = z := ⟨_, rfl⟩
          have o9 : Own1 3 w9 v9 na ((S.ats.map natV).drop m) := by rw [← hna]; exact o9
          obtain ⟨a9, c9, rfl, _, _⟩ := o9.fits
          have HNA := hid hna
          have hx9 : w9.heap[x]? = some (.cells (stC p G ⟨fn, nx, S.recs.drop m, S.ats⟩ (.slice a7 nr c7) (.slice (some ⟨ga, 0, none⟩) S.ats.length ca)) 53 (0, 0)) := (u9.block x (heap_lt ST8.out.head) id).trans ST8.out.head
          obtain ⟨⟨O10, st10, ho10⟩, u10⟩ := ST8.out.ats_put (l' := S.ats.drop m) (v' := .slice a9 na c9) (.of0 u9) (by unfold OwnN; rw [List.length_drop, List.map_drop, hna]; exact o9) fun g hg => .inr (n9 g hg)
          obtain ⟨⟨c0, c1, c2, c3, c4, c5, c6⟩, hf⟩ := ST8.out.cells
          have hxl : x < w8.heap.size := heap_lt ST8.out.head
          have z6 : w9.cell? ⟨x, 6, none⟩ = some (.slice (some ⟨ga, 0, none⟩) S.ats.length ca) := by rw [cell_of_block hx9]; rfl
          have zf : ∀ o, w9.frozen? ⟨x, o, none⟩ = false := fun o => frozen_of_block hx9
          have ST10 := hid st10; have HO10 := hid (show ∀ k, O10 k → O k ∨ w.heap.size ≤ k from fun k hk => (ho10 k hk).elim (HO8.out k) fun h => .inr (Nat.le_trans U8.out.size h)); have U10 := hid (grow_trans HO8.out U8.out u10)
          clear st10 ho10 u10 o9 n9 u9 hx9 TA1 TA2 hna
          go_wp2_with (at_builtin; refine wpList_append_run rfl _ _ _ _ rfl rfl rfl r9 ?_)
          go_ret
          rw [R.out]
          exact ⟨rfl, ⟨O10, _, _, ST10.out, HO10.out⟩, U10.out⟩
end
end Go.Proofs.YtlefilfdomjkeaaGreatDoor
