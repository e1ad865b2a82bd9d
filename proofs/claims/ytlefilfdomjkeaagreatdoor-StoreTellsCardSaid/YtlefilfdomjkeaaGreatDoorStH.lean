/- Walk: records are dropped. -/
import Derived.Test.YtlefilfdomjkeaaGreatDoorStF
import Derived.Test.YtlefilfdomjkeaaGreatDoorFr
namespace Go.Proofs.YtlefilfdomjkeaaGreatDoor
open Go.RowKit Go.Deep
def CallPost (O : Nat → Prop) (x p q : Nat) (R : Fl × St × Int) (w : World) (e : Ending) (w' : World) : Prop :=
  e = .returned (.int .i64 R.2.2) ∧ ∃ O' vr va, StoreAt w' O' x p q R.1 R.2.1 vr va ∧ Sto O w w' ∧ ∀ k, O' k → O k ∨ w.heap.size ≤ k
theorem call_same {O : Nat → Prop} {x p q : Nat} {F : Fl} {S : St} {vr va : Value} {e : Int} {R : Fl × St × Int} {w w' : World} (h : R = (F, S, e)) (st : StoreAt w' O x p q F S vr va) (u : Sto O w w') : CallPost O x p q R w (.returned (.int .i64 e)) w' := by
  subst h; exact ⟨rfl, O, vr, va, st, u, fun _ => .inl⟩
theorem drop_head (S : St) (n : Nat) : pgC (dropPg S n) = #[.int .i64 1, .int .i64 S.next, .int .i64 S.len, .int .i64 (S.recs.length - n : Nat), .int .i64 0, .int .i64 0, .string ⟨#[]⟩] := rfl
theorem write_size {F : Fl} {S : St} {s : List UInt8} {F4 : Fl} {T4 : St} {e4 : Int} (h : writeP F S s = (F4, T4, e4)) : T4.first = S.first ∧ T4.recs = S.recs ∧ T4.ats = S.ats ∧ (e4 ≠ 0 → T4 = S) := by
  have key : ∀ G, (progP G S s).2.1.first = S.first ∧ (progP G S s).2.1.recs = S.recs ∧ (progP G S s).2.1.ats = S.ats ∧ ((progP G S s).2.2 ≠ 0 → (progP G S s).2.1 = S) := fun G => by
    unfold progP
    split
    · exact ⟨rfl, rfl, rfl, fun h => absurd rfl h⟩
    · exact ⟨rfl, rfl, rfl, fun _ => rfl⟩
  have all : (writeP F S s).2.1.first = S.first ∧ (writeP F S s).2.1.recs = S.recs ∧ (writeP F S s).2.1.ats = S.ats ∧ ((writeP F S s).2.2 ≠ 0 → (writeP F S s).2.1 = S) := by
    unfold writeP
    split
    · split
      · exact key _
      · exact ⟨rfl, rfl, rfl, fun _ => rfl⟩
    · exact key _
  rw [h] at all
  exact all
theorem store_first {w : World} {x p : Nat} {F : Fl} {S : St} {vr va : Value} {t : TypeId} (h : w.heap[x]? = some (.cells (stC p F S vr va) t (0, 0))) (n : Nat) :
    (w.setCell ⟨x, 3, none⟩ (.int .i64 n)).heap[x]? = some (.cells (stC p F { S with first := n } vr va) t (0, 0)) := by
  rw [heap_setCell_same (p := ⟨x, 3, none⟩) rfl h]; rfl
theorem StoreAt.rows {w w2 : World} {O : Nat → Prop} {x p q : Nat} {F : Fl} {S : St} {vr va v1 v2 : Value} {l1 : List (List UInt8)} {l2 : List Nat} (h : StoreAt w O x p q F S vr va) (u : Sto O w w2) (hx : w2.heap[x]? = w.heap[x]?) (f : FlashAt w2 p q F)
    (o1 : OwnS w2 v1 l1) (n1 : ∀ g, v1.ownBlock = some g → O g ∨ w.heap.size ≤ g) (o2 : OwnN w2 v2 l2) (n2 : ∀ g, v2.ownBlock = some g → O g ∨ w.heap.size ≤ g) :
    (∃ O', StoreAt ((w2.setCell ⟨x, 5, none⟩ v1).setCell ⟨x, 6, none⟩ v2) O' x p q F { S with recs := l1, ats := l2 } v1 v2 ∧ ∀ k, O' k → O k ∨ w.heap.size ≤ k) ∧ Sto O w ((w2.setCell ⟨x, 5, none⟩ v1).setCell ⟨x, 6, none⟩ v2) := by
  have hx2 : w2.heap[x]? = some (.cells (stC p F S vr va) 72 (0, 0)) := hx.trans h.head
  have ux : Upd (· = x) w2 ((w2.setCell ⟨x, 5, none⟩ v1).setCell ⟨x, 6, none⟩ v2) := ((Upd.refl (· = x) w2).at_ _ _).at_ _ _
  have hns : NoStr w2 x := noStr_x (by decide) hx2
  have hlx : ∀ k, O k → k < ((w2.setCell ⟨x, 5, none⟩ v1).setCell ⟨x, 6, none⟩ v2).heap.size := fun k hk => Nat.lt_of_lt_of_le (h.lt k hk) (Nat.le_trans u.size ux.size)
  refine ⟨⟨fun k => O k ∨ v1.ownBlock = some k ∨ v2.ownBlock = some k, ⟨?_, Own1.upd o1 ux (own_ne o1 hx2 (by decide)), Own1.upd o2 ux (own_ne o2 hx2 (by decide)), f.upd ux (fun e => h.ne.1 e.symm) (fun e => h.ne.2 e.symm) (fun k hk => hk ▸ hns), .inl h.ox, .inl h.op, .inl h.oq, fun g hg => .inr (.inl hg), fun g hg => .inr (.inr hg), fun k hk => ?_⟩, fun k hk => ?_⟩, ?_⟩
  · simp [heap_setCell, Obj.setAt, hx2]
  · rcases hk with hk | hk | hk
    · exact hlx k hk
    · exact Nat.lt_of_lt_of_le (o1.lt k hk) ux.size
    · exact Nat.lt_of_lt_of_le (o2.lt k hk) ux.size
  · rcases hk with hk | hk | hk
    · exact .inl hk
    · exact n1 k hk
    · exact n2 k hk
  · exact u.then (ux.mono fun k hk => by subst hk; exact ⟨h.ox, hns⟩)
theorem drop_cells {w wq : World} {e : TypeId} {g m : Nat} {xs : List Value} (h : ∀ (j : Nat) u, xs[j]? = some u → w.cell? ⟨g, j, none⟩ = some u) (hg : g < w.heap.size) (u : Upd (fun _ => False) w wq) :
    ∀ (j : Nat) v, (xs.drop m)[j]? = some v → wq.cell? (Addr.add ⟨g, m, none⟩ j) = some v := fun j v hj => by
  rw [List.getElem?_drop] at hj
  rw [Addr.add_lit]
  exact cell_kept (h _ _ hj) (u.block g hg id)
section
variable {w : World} {O : Nat → Prop} {x p q : Nat} {F : Fl} {S : St} {vr va : Value}
set_option maxRecDepth 100000 in
set_option maxHeartbeats 1000000 in
theorem drop_any (h : StoreAt w O x p q F S vr va) (ok : StOk S) (hO : ∀ k, O k → 6 ≤ k) (E : Env w) (hd : F.down = false) (n : Int) (hn : I64 n) :
    Calls Tryz.prog 14 #[.pointer (some ⟨x, 0, none⟩), .int .i64 n] w (CallPost O x p q (dropP F S n) w) := by
  obtain ⟨⟨c0, c1, c2, c3, c4, c5, c6⟩, hf⟩ := h.cells
  obtain ⟨ar, cr, rfl, hr1, hr2⟩ := h.recs.fits
  have hlen : S.first + S.recs.length ≤ 900000 := ok.len
  have hrl : (S.recs.length : Int) ≤ 900000 := by omega
  have hnn := hn.1; have hnm := hn.2
  have H := hid h; have OK := hid ok; have HE := hid E; have HD := hid hd; have HO := hid hO
  by_cases h1 : n < 0
  · have R := hid (show dropP F S n = (F, S, 1) from if_pos (.inl h1))
    clear h ok E hd hO
    go_enter Tryz.func14, Tryz.ntmps14
    go_wp2_with fail
    go_ret
    exact call_same R.out H.out (Sto.refl _ _)
  by_cases h2 : (S.recs.length : Int) < n
  · have R := hid (show dropP F S n = (F, S, 1) from if_pos (.inr h2))
    clear h ok E hd hO
    go_enter Tryz.func14, Tryz.ntmps14
    go_wp2_with fail
    go_ret
    exact call_same R.out H.out (Sto.refl _ _)
  by_cases h3 : n = 0
  · have R := hid (show dropP F S n = (F, S, 0) from by unfold dropP; rw [if_neg (by omega), if_pos h3])
    subst h3
    clear h ok E hd hO
    go_enter Tryz.func14, Tryz.ntmps14
    go_wp2_with fail
    go_ret
    exact call_same R.out H.out (Sto.refl _ _)
  obtain ⟨m, hm⟩ : ∃ m : Nat, n = m := ⟨n.toNat, by omega⟩
  subst hm
  have hm0 : 0 < m := by omega
  have hml : m ≤ S.recs.length := by omega
  have D0 : dropP F S m = if fitsP F S S.next = false then (F, S, 6)
    else if (writeP F S (txtP (dropPg S m))).2.2 = 0 then ((writeP F S (txtP (dropPg S m))).1, ⟨S.first + m, (writeP F S (txtP (dropPg S m))).2.1.next, S.recs.drop m, S.ats.drop m⟩, 0)
    else ((writeP F S (txtP (dropPg S m))).1, S, (writeP F S (txtP (dropPg S m))).2.2) := by
    unfold dropP
    rw [if_neg (by omega), if_neg h3, Int.toNat_natCast]
  have hnx := ok.next
  have FC := hid (fits_any h ok S.next (by omega))
  have hn0 : (0 : Int) < m := by omega
  have hmi : (m : Int) ≤ S.recs.length := by omega
  cases hfit : fitsP F S S.next with
  | false =>
    have R := hid (D0.trans (if_pos hfit))
    rw [hfit] at FC
    clear h ok E hd hO D0 hfit
    go_enter Tryz.func14, Tryz.ntmps14
    go_wp2_with fail
    refine FC.out.mono ?_
    rintro e w1 ⟨rfl, u1⟩
    have U1 := hid u1; clear u1
    go_wp2_with fail
    go_ret
    exact call_same R.out (H.out.upd0 U1.out) (.of0 U1.out)
  | true =>
    have D1 := hid (D0.trans (if_neg (by rw [hfit]; decide)))
    rw [hfit] at FC
    have G : (dropPg S m).Good := drop_good ⟨by simp; omega, by show S.first + S.recs.length ≤ 1000000; omega⟩
    have PI : PgI (dropPg S m) := ⟨by show I64 ((1 : Nat) : Int); unfold I64; omega, by have := G.pos; unfold I64; omega, by have := G.number; unfold I64; omega, by have := G.diff; unfold I64; omega, by show I64 ((0 : Nat) : Int); unfold I64; omega, by show I64 ((0 : Nat) : Int); unfold I64; omega⟩
    have htx : txtP (dropPg S m) = hdrP (dropPg S m) := by unfold txtP; exact List.append_nil _
    have hl64 := txt_len G
    rw [htx] at hl64
    have HH := hid (fun (wq : World) (Eq : Env wq) => (show Calls Tryz.prog 42 #[.agg (pgC (dropPg S m))] wq fun e w' => e = .returned (.string ⟨(hdrP (dropPg S m)).toArray⟩) ∧ Upd (fun _ => False) wq w' from header_any (dropPg S m) PI wq Eq))
    rw [drop_head] at HH
    have LC := hid (fun (wq : World) (st : StoreAt wq O x p q F S (.slice ar S.recs.length cr) va) => len_any st OK.out)
    have WC := hid (fun (wq : World) (st : StoreAt wq O x p q F S (.slice ar S.recs.length cr) va) => (show Calls Tryz.prog 45 #[.pointer (some ⟨x, 0, none⟩), .string ⟨(hdrP (dropPg S m)).toArray⟩] wq fun e w' => e = .returned (.int .i64 (writeP F S (hdrP (dropPg S m))).2.2) ∧ StoreAt w' O x p q (writeP F S (hdrP (dropPg S m))).1 (writeP F S (hdrP (dropPg S m))).2.1 (.slice ar S.recs.length cr) va ∧ Sto O wq w' from write_any st HD.out (by have := OK.out.next; omega) (hdrP (dropPg S m)) (by omega)))
    rw [htx] at D1
    have f1 : ((S.recs.length : Nat) : Int) - m = ((S.recs.length - m : Nat) : Int) := by omega
    obtain ⟨dl, hdl⟩ : ∃ d, S.recs.length - m = d := ⟨_, rfl⟩
    rw [hdl] at HH f1
    have hdlb : (dl : Int) ≤ 900000 := by omega
    generalize hdrP (dropPg S m) = hd' at *
    obtain ⟨R4, hR4⟩ : ∃ R, writeP F S hd' = R := ⟨_, rfl⟩
    obtain ⟨F4, T4, e4⟩ := R4
    obtain ⟨nx, hnx4⟩ : ∃ nx, T4 = { S with next := nx } := ⟨T4.next, by have := write_size hR4; cases T4; simp only at this; obtain ⟨a, b, c, _⟩ := this; subst a b c; rfl⟩
    subst hnx4
    have WS := hid (write_size hR4).2.2.2
    rw [hR4] at D1 WC
    dsimp only at D1 WC
    have bdl : dl ≤ 1000000000 := by omega
    obtain ⟨fm, hfm⟩ : ∃ fm, S.first + m = fm := ⟨_, rfl⟩
    have f2 : (S.first : Int) + m = fm := by omega
    have bfm : (fm : Int) ≤ 900000 := by omega
    rw [hfm] at D1
    clear hfm
    clear h ok E hd hO D0 hfit G PI htx hl64 hR4 hdl
    obtain ⟨wd1, wd2⟩ := wrap_nat bdl
    clear bdl
    go_enter Tryz.func14, Tryz.ntmps14
    go_wp2_with fail
    refine FC.out.mono ?_
    rintro e w1 ⟨rfl, u1⟩
    have S1 := hid (H.out.upd0 u1); have U1 := hid (Sto.of0 (O := O) u1); have E1 := hid (HE.out.keep0 u1)
    clear u1 c0 c1 c2 c3 c4 c5 c6 hf
    go_upto_region 7 with (fail)
    have S1d : Hid (StoreAt w1.drew O x p q F S (.slice ar S.recs.length cr) va) := hid (S1.out.upd0 (Upd.refl _ _).drew)
    have U1d : Hid (Sto O w w1.drew) := hid (U1.out.then0 (Upd.refl _ _).drew)
    have E1d : Hid (Env w1.drew) := hid (E1.out.keep0 (Upd.refl _ _).drew)
    have cc := S1d.out.cells
    obtain ⟨⟨c0, c1, c2, c3, c4, c5, c6⟩, hf⟩ := cc
    refine wp_region_g (fun w' => w'.cell? ⟨x, 4, none⟩ = some (.int .i64 S.next) ∧ w'.cell? ⟨x, 5, none⟩ = some (.slice ar S.recs.length cr)) 16 (by kernel_rfl) ?_
    have hS : w1.drew.cell? ⟨x, 4, none⟩ = some (.int .i64 S.next) ∧ w1.drew.cell? ⟨x, 5, none⟩ = some (.slice ar S.recs.length cr) := ⟨c4, c5⟩
    clear c0 c1 c2 c3 c4 c5 c6 hf
    refine g_take0 (i := 0) rfl (by kernel_rfl) (by kernel_rfl) (by kernel_rfl) (by decide) (fun _ _ _ h => h) (Or.inl ⟨by kernel_rfl, by (intro w _; go_simp; try with_reducible rfl)⟩) (fun _ => hS) ?_
    (try simp only [List.getElem_toArray, List.getElem_cons_zero, List.getElem_cons_succ])
    (try go_frame)
    refine g_take0 (i := 1) rfl (by kernel_rfl) (by kernel_rfl) (by kernel_rfl) (by decide) (fun _ _ _ h => h) (Or.inl ⟨by kernel_rfl, by (intro w _; go_simp; try with_reducible rfl)⟩) (fun _ => hS) ?_
    (try simp only [List.getElem_toArray, List.getElem_cons_zero, List.getElem_cons_succ])
    (try go_frame)
    refine g_take0 (i := 2) rfl (by kernel_rfl) (by kernel_rfl) (by kernel_rfl) (by decide) (fun _ _ _ h => h) (Or.inl ⟨by kernel_rfl, by (intro w _; go_simp; try with_reducible rfl)⟩) (fun _ => hS) ?_
    (try simp only [List.getElem_toArray, List.getElem_cons_zero, List.getElem_cons_succ])
    (try go_frame)
    refine g_take0 (i := 3) rfl (by kernel_rfl) (by kernel_rfl) (by kernel_rfl) (by decide) (fun _ _ _ h => h) (Or.inl ⟨by kernel_rfl, by (intro w _; go_simp; try with_reducible rfl)⟩) (fun _ => hS) ?_
    (try simp only [List.getElem_toArray, List.getElem_cons_zero, List.getElem_cons_succ])
    (try go_frame)
    refine g_takeP [16, 15, 14] (i := 4) rfl (by kernel_rfl) (by kernel_rfl) (by kernel_rfl) (by kernel_rfl) (fun _ _ _ h => h) (Or.inl ⟨by kernel_rfl, by (intro w hSw; (try dsimp only at hSw); obtain ⟨z0, z1⟩ := hSw; go_simp; try with_reducible rfl)⟩) hS ?_
    (try simp only [List.getElem_toArray, List.getElem_cons_zero, List.getElem_cons_succ])
    (try go_frame)
    refine g_take0 (i := 5) rfl (by kernel_rfl) (by kernel_rfl) (by kernel_rfl) (by decide) (fun _ _ _ h => h) (Or.inl ⟨by kernel_rfl, by (intro w _; go_simp; try with_reducible rfl)⟩) (fun _ => hS) ?_
    (try simp only [List.getElem_toArray, List.getElem_cons_zero, List.getElem_cons_succ])
    (try go_frame)
    refine g_take0 (i := 7) rfl (by kernel_rfl) (by kernel_rfl) (by kernel_rfl) (by decide) (fun _ _ _ h => h) (Or.inl ⟨by kernel_rfl, by (intro w _; go_simp; try with_reducible rfl)⟩) (fun _ => hS) ?_
    (try simp only [List.getElem_toArray, List.getElem_cons_zero, List.getElem_cons_succ])
    (try go_frame)
    refine g_take0 (i := 8) rfl (by kernel_rfl) (by kernel_rfl) (by kernel_rfl) (by decide) (fun _ _ _ h => h) (Or.inl ⟨by kernel_rfl, by (intro w _; go_simp; try with_reducible rfl)⟩) (fun _ => hS) ?_
    (try simp only [List.getElem_toArray, List.getElem_cons_zero, List.getElem_cons_succ])
    (try go_frame)
    refine g_take0 (i := 9) rfl (by kernel_rfl) (by kernel_rfl) (by kernel_rfl) (by decide) (fun _ _ _ h => h) (Or.inl ⟨by kernel_rfl, by (intro w _; go_simp; try with_reducible rfl)⟩) (fun _ => hS) ?_
    (try simp only [List.getElem_toArray, List.getElem_cons_zero, List.getElem_cons_succ])
    (try go_frame)
    refine g_takeP [16, 15, 14, 13, 11] (i := 10) rfl (by kernel_rfl) (by kernel_rfl) (by kernel_rfl) (by kernel_rfl) (fun _ _ _ h => h) (Or.inl ⟨by kernel_rfl, by (intro w hSw; (try dsimp only at hSw); obtain ⟨z0, z1⟩ := hSw; go_simp; try with_reducible rfl)⟩) hS ?_
    (try simp only [List.getElem_toArray, List.getElem_cons_zero, List.getElem_cons_succ])
    (try go_frame)
    refine g_take0 (i := 11) rfl (by kernel_rfl) (by kernel_rfl) (by kernel_rfl) (by decide) (fun _ _ _ h => h) (Or.inl ⟨by kernel_rfl, by (intro w _; go_simp; try with_reducible rfl)⟩) (fun _ => hS) ?_
    (try simp only [List.getElem_toArray, List.getElem_cons_zero, List.getElem_cons_succ])
    (try go_frame)
    refine g_take0 (i := 12) rfl (by kernel_rfl) (by kernel_rfl) (by kernel_rfl) (by decide) (fun _ _ _ h => h) (Or.inl ⟨by kernel_rfl, by (intro w _; go_simp; try with_reducible rfl)⟩) (fun _ => hS) ?_
    (try simp only [List.getElem_toArray, List.getElem_cons_zero, List.getElem_cons_succ])
    (try go_frame)
    refine g_take0 (i := 13) (v := .int .i64 dl) rfl (by kernel_rfl) (by kernel_rfl) (by kernel_rfl) (by decide) (fun _ _ _ h => h) (Or.inl ⟨by kernel_rfl, by (intro w _; go_simp; try with_reducible rfl)⟩) (fun _ => hS) ?_
    (try simp only [List.getElem_toArray, List.getElem_cons_zero, List.getElem_cons_succ])
    (try go_frame)
    refine g_op (i := 6) (by kernel_rfl) rfl ?_
    go_wp2_with fail
    refine (LC.out _ S1d.out).mono ?_
    rintro e w2 ⟨rfl, u2⟩
    have S2 := hid (S1d.out.upd0 u2)
    have U2 := hid (U1d.out.then0 u2)
    have E2 := hid (E1d.out.keep0 u2)
    have hS2 := (show w2.cell? ⟨x, 4, none⟩ = some (.int .i64 S.next) ∧ w2.cell? ⟨x, 5, none⟩ = some (.slice ar S.recs.length cr) from ⟨S2.out.cells.1.2.2.2.2.1, S2.out.cells.1.2.2.2.2.2.1⟩)
    clear u2 hS
    go_wp2_with fail
    first | (refine ⟨fun _ => hS2, ?_⟩) | (refine ⟨hS2, ?_⟩)
    (try simp only [List.getElem_toArray, List.getElem_cons_zero, List.getElem_cons_succ])
    (try go_frame)
    refine g_take0 (i := 14) rfl (by kernel_rfl) (by kernel_rfl) (by kernel_rfl) (by decide) (fun _ _ _ h => h) (Or.inl ⟨by kernel_rfl, by (intro w _; go_simp; try with_reducible rfl)⟩) (fun _ => hS2) ?_
    (try simp only [List.getElem_toArray, List.getElem_cons_zero, List.getElem_cons_succ])
    (try go_frame)
    refine g_op (i := 15) (by kernel_rfl) rfl ?_
    go_wp2_with fail
    refine (HH.out _ E2.out).mono ?_
    rintro e w3 ⟨rfl, u3⟩
    have S3 := hid (S2.out.upd0 u3)
    have U3 := hid (U2.out.then0 u3)
    have hS3 := (show w3.cell? ⟨x, 4, none⟩ = some (.int .i64 S.next) ∧ w3.cell? ⟨x, 5, none⟩ = some (.slice ar S.recs.length cr) from ⟨S3.out.cells.1.2.2.2.2.1, S3.out.cells.1.2.2.2.2.2.1⟩)
    clear u3 hS2
    go_wp2_with fail
    first | (refine ⟨fun _ => hS3, ?_⟩) | (refine ⟨hS3, ?_⟩)
    (try simp only [List.getElem_toArray, List.getElem_cons_zero, List.getElem_cons_succ])
    (try go_frame)
    refine g_op (i := 16) (by kernel_rfl) rfl ?_
    go_wp2_with fail
    refine (WC.out _ S3.out).mono ?_
    rintro e w4 ⟨rfl, st4, u4⟩
    have S4 := hid st4
    have U4 := hid (U3.out.then u4)
    clear st4 u4 hS3
    go_wp2_with fail
    refine ⟨fun h => (Bool.false_ne_true (h.symm.trans (by kernel_rfl))).elim, ?_⟩
    (try simp only [List.getElem_toArray, List.getElem_cons_zero, List.getElem_cons_succ])
    (try go_frame)
    refine g_op (i := 17) (by kernel_rfl) rfl ?_
    go_wp2_with fail
    refine ⟨fun h => (Bool.false_ne_true (h.symm.trans (by kernel_rfl))).elim, ?_⟩
    (try simp only [List.getElem_toArray, List.getElem_cons_zero, List.getElem_cons_succ])
    (try go_frame)
    refine g_done (by kernel_rfl) ?_
    by_cases h4 : e4 = 0
    case neg =>
      have R := hid (D1.out.trans (if_neg h4))
      have TS := WS.out h4
      rw [TS] at S4
      have g4 : (e4 == 0) = false := beq_eq_false_iff_ne.2 h4
      go_wp2_with fail
      go_ret
      exact call_same R.out S4.out U4.out
    case pos =>
      have R := hid (D1.out.trans (if_pos h4))
      subst h4
      obtain ⟨⟨c0, c1, c2, c3, c4, c5, c6⟩, hf⟩ := S4.out.cells
      dsimp only at c3 c4
      have hs5 := store_first S4.out.head fm
      have S5 := hid (S4.out.headed ((Upd.refl (· = x) w4).at_ 3 (.int .i64 (fm : Int))) hs5 rfl rfl)
      have U5 := hid (U4.out.then (S4.out.sto_x ((Upd.refl (· = x) w4).at_ 3 (.int .i64 (fm : Int)))))
      clear hs5
      go_upto_region 11 with (fail)
      obtain ⟨W5, hW5⟩ : ∃ W5, w4.setCell ⟨x, 3, none⟩ (.int .i64 (fm : Int)) = W5 := ⟨_, rfl⟩
      rw [hW5] at S5 U5 ⊢
      clear hW5 c0 c1 c2 c3 c4 c5 c6 hf S4
      obtain ⟨g, cap, hv, _, hgl, _, _, hcr⟩ := S5.out.recs.cell (by show 0 < S.recs.length; omega)
      injection hv with hv1 hv2 hv3
      subst hv1 hv3
      have hsame : S.ats.length = S.recs.length := OK.out.same
      obtain ⟨ga, ca, rfl, _, hgal, _, _, hca⟩ := S5.out.ats.cell (by show 0 < S.ats.length; omega)
      have hca2 : S.ats.length ≤ ca := by
        obtain ⟨_, _, e, h1, _⟩ := S5.out.ats.fits
        injection e with _ _ e3
        exact e3 ▸ h1
      have hal : ((S.ats.length : Nat) : Int) ≤ 900000 := by omega
      have hmia : (m : Int) ≤ S.ats.length := by omega
      have hmla : m ≤ S.ats.length := by omega
      have S5d : Hid (StoreAt W5.drew O x p q F4 { first := fm, next := nx, recs := S.recs, ats := S.ats } (.slice (some ⟨g, 0, none⟩) S.recs.length cr) (.slice (some ⟨ga, 0, none⟩) S.ats.length ca)) := hid (S5.out.upd0 (Upd.refl _ _).drew)
      have HCR := hid hcr; have HCA := hid hca
      clear hcr hca hsame
      by_cases hc1 : cr = m
      case pos =>
        subst hc1
        by_cases hc2 : ca = cr
        case pos =>
          subst hc2
          have CK7 := hid (fun (wq : World) (u : Upd (fun _ => False) W5 wq) => (show Calls Tryz.prog 49 #[.slice (some ⟨g, 0, none⟩) 0 0] wq fun e w' => ∃ a' c', e = .returned (.slice a' 0 c') ∧ OwnS w' (.slice a' 0 c') (S.recs.drop ca) ∧ (∀ gb, (Value.slice a' 0 c').ownBlock = some gb → wq.heap.size ≤ gb) ∧ Upd (fun _ => False) wq w' from by
            have := clone_str_some wq ⟨g, 0, none⟩ 0 0 [] rfl (fun j u hj => by simp at hj) (fun u hu => by simp at hu) (by decide)
            refine this.mono fun e w' => ?_
            rintro ⟨v', e1, e2, e3, e4⟩
            obtain ⟨a', c', rfl, _, _⟩ := e2.fits
            exact ⟨a', c', e1, by rw [show S.recs.drop ca = [] from List.drop_of_length_le (hr1)]; exact e2, e3, e4⟩))
          have CK14 := hid (fun (wq : World) (u : Upd (fun _ => False) W5 wq) => (show Calls Tryz.prog 50 #[.slice (some ⟨ga, 0, none⟩) 0 0] wq fun e w' => ∃ a' c', e = .returned (.slice a' 0 c') ∧ OwnN w' (.slice a' 0 c') (S.ats.drop ca) ∧ (∀ gb, (Value.slice a' 0 c').ownBlock = some gb → wq.heap.size ≤ gb) ∧ Upd (fun _ => False) wq w' from by
            have := clone_int_some wq ⟨ga, 0, none⟩ 0 0 [] rfl (fun j u hj => by simp at hj) (fun u hu => by simp at hu) (by decide)
            refine this.mono fun e w' => ?_
            rintro ⟨v', e1, e2, e3, e4⟩
            obtain ⟨a', c', rfl, _, _⟩ := e2.fits
            exact ⟨a', c', e1, by rw [show S.ats.drop ca = [] from List.drop_of_length_le (hca2)]; exact e2, e3, e4⟩))
          refine wp_region_g (fun w' => w'.cell? ⟨x, 5, none⟩ = some (.slice (some ⟨g, 0, none⟩) S.recs.length ca) ∧ w'.cell? ⟨x, 6, none⟩ = some (.slice (some ⟨ga, 0, none⟩) S.ats.length ca)) 18 (by kernel_rfl) ?_
          have hS := (show W5.drew.cell? ⟨x, 5, none⟩ = some (.slice (some ⟨g, 0, none⟩) S.recs.length ca) ∧ W5.drew.cell? ⟨x, 6, none⟩ = some (.slice (some ⟨ga, 0, none⟩) S.ats.length ca) from ⟨S5d.out.cells.1.2.2.2.2.2.1, S5d.out.cells.1.2.2.2.2.2.2⟩)
          refine g_take0 (i := 0) rfl (by kernel_rfl) (by kernel_rfl) (by kernel_rfl) (by decide) (fun _ _ _ h => h) (Or.inl ⟨by kernel_rfl, by (intro w _; go_simp; try with_reducible rfl)⟩) (fun _ => hS) ?_
          (try simp only [List.getElem_toArray, List.getElem_cons_zero, List.getElem_cons_succ])
          (try go_frame)
          refine g_take0 (i := 1) rfl (by kernel_rfl) (by kernel_rfl) (by kernel_rfl) (by decide) (fun _ _ _ h => h) (Or.inl ⟨by kernel_rfl, by (intro w _; go_simp; try with_reducible rfl)⟩) (fun _ => hS) ?_
          (try simp only [List.getElem_toArray, List.getElem_cons_zero, List.getElem_cons_succ])
          (try go_frame)
          refine g_take0 (i := 2) rfl (by kernel_rfl) (by kernel_rfl) (by kernel_rfl) (by decide) (fun _ _ _ h => h) (Or.inl ⟨by kernel_rfl, by (intro w _; go_simp; try with_reducible rfl)⟩) (fun _ => hS) ?_
          (try simp only [List.getElem_toArray, List.getElem_cons_zero, List.getElem_cons_succ])
          (try go_frame)
          refine g_take0 (i := 3) rfl (by kernel_rfl) (by kernel_rfl) (by kernel_rfl) (by decide) (fun _ _ _ h => h) (Or.inl ⟨by kernel_rfl, by (intro w _; go_simp; try with_reducible rfl)⟩) (fun _ => hS) ?_
          (try simp only [List.getElem_toArray, List.getElem_cons_zero, List.getElem_cons_succ])
          (try go_frame)
          refine g_take0 (i := 4) rfl (by kernel_rfl) (by kernel_rfl) (by kernel_rfl) (by decide) (fun _ _ _ h => h) (Or.inl ⟨by kernel_rfl, by (intro w _; go_simp; try with_reducible rfl)⟩) (fun _ => hS) ?_
          (try simp only [List.getElem_toArray, List.getElem_cons_zero, List.getElem_cons_succ])
          (try go_frame)
          refine g_take (i := 5) rfl (by kernel_rfl) (by kernel_rfl) (by kernel_rfl) (by kernel_rfl) (fun _ _ _ h => h) (Or.inl ⟨by kernel_rfl, by (intro w hSw; (try dsimp only at hSw); obtain ⟨z0, z1⟩ := hSw; go_simp; try with_reducible rfl)⟩) hS ?_
          (try simp only [List.getElem_toArray, List.getElem_cons_zero, List.getElem_cons_succ])
          (try go_frame)
          refine g_take0 (i := 6) rfl (by kernel_rfl) (by kernel_rfl) (by kernel_rfl) (by decide) (fun _ _ _ h => h) (Or.inl ⟨by kernel_rfl, by (intro w _; go_simp; try with_reducible rfl)⟩) (fun _ => hS) ?_
          (try simp only [List.getElem_toArray, List.getElem_cons_zero, List.getElem_cons_succ])
          (try go_frame)
          refine g_take0 (i := 7) rfl (by kernel_rfl) (by kernel_rfl) (by kernel_rfl) (by decide) (fun _ _ _ h => h) (Or.inl ⟨by kernel_rfl, by (intro w _; go_simp; try with_reducible rfl)⟩) (fun _ => hS) ?_
          (try simp only [List.getElem_toArray, List.getElem_cons_zero, List.getElem_cons_succ])
          (try go_frame)
          refine g_take0 (i := 9) rfl (by kernel_rfl) (by kernel_rfl) (by kernel_rfl) (by decide) (fun _ _ _ h => h) (Or.inl ⟨by kernel_rfl, by (intro w _; go_simp; try with_reducible rfl)⟩) (fun _ => hS) ?_
          (try simp only [List.getElem_toArray, List.getElem_cons_zero, List.getElem_cons_succ])
          (try go_frame)
          refine g_take0 (i := 10) rfl (by kernel_rfl) (by kernel_rfl) (by kernel_rfl) (by decide) (fun _ _ _ h => h) (Or.inl ⟨by kernel_rfl, by (intro w _; go_simp; try with_reducible rfl)⟩) (fun _ => hS) ?_
          (try simp only [List.getElem_toArray, List.getElem_cons_zero, List.getElem_cons_succ])
          (try go_frame)
          refine g_take0 (i := 11) rfl (by kernel_rfl) (by kernel_rfl) (by kernel_rfl) (by decide) (fun _ _ _ h => h) (Or.inl ⟨by kernel_rfl, by (intro w _; go_simp; try with_reducible rfl)⟩) (fun _ => hS) ?_
          (try simp only [List.getElem_toArray, List.getElem_cons_zero, List.getElem_cons_succ])
          (try go_frame)
          refine g_take (i := 12) rfl (by kernel_rfl) (by kernel_rfl) (by kernel_rfl) (by kernel_rfl) (fun _ _ _ h => h) (Or.inl ⟨by kernel_rfl, by (intro w hSw; (try dsimp only at hSw); obtain ⟨z0, z1⟩ := hSw; go_simp; try with_reducible rfl)⟩) hS ?_
          (try simp only [List.getElem_toArray, List.getElem_cons_zero, List.getElem_cons_succ])
          (try go_frame)
          refine g_take0 (i := 13) rfl (by kernel_rfl) (by kernel_rfl) (by kernel_rfl) (by decide) (fun _ _ _ h => h) (Or.inl ⟨by kernel_rfl, by (intro w _; go_simp; try with_reducible rfl)⟩) (fun _ => hS) ?_
          (try simp only [List.getElem_toArray, List.getElem_cons_zero, List.getElem_cons_succ])
          (try go_frame)
          refine g_take0 (i := 14) rfl (by kernel_rfl) (by kernel_rfl) (by kernel_rfl) (by decide) (fun _ _ _ h => h) (Or.inl ⟨by kernel_rfl, by (intro w _; go_simp; try with_reducible rfl)⟩) (fun _ => hS) ?_
          (try simp only [List.getElem_toArray, List.getElem_cons_zero, List.getElem_cons_succ])
          (try go_frame)
          refine g_op (i := 8) (by kernel_rfl) rfl ?_
          go_wp2_with fail
          refine (CK7.out _ (Upd.refl _ _).drew).mono ?_
          rintro e w6 ⟨a1, n1, rfl, q1, q2, q3⟩
          have Q1 := hid q1; have Q2 := hid q2; have Q3 := hid q3
          have S6 := hid (S5d.out.upd0 q3)
          have hS6 := (show w6.cell? ⟨x, 5, none⟩ = some (.slice (some ⟨g, 0, none⟩) S.recs.length ca) ∧ w6.cell? ⟨x, 6, none⟩ = some (.slice (some ⟨ga, 0, none⟩) S.ats.length ca) from ⟨S6.out.cells.1.2.2.2.2.2.1, S6.out.cells.1.2.2.2.2.2.2⟩)
          clear q1 q2 q3 hS
          go_wp2_with fail
          first | (refine ⟨fun _ => hS6, ?_⟩) | (refine ⟨hS6, ?_⟩)
          (try simp only [List.getElem_toArray, List.getElem_cons_zero, List.getElem_cons_succ])
          (try go_frame)
          refine g_op (i := 15) (by kernel_rfl) rfl ?_
          go_wp2_with fail
          refine (CK14.out _ ((Upd.refl (fun _ => False) W5).drew.trans Q3.out)).mono ?_
          rintro e w7 ⟨a2, n2, rfl, q1, q2, q3⟩
          have T1 := hid q1; have T2 := hid q2; have T3 := hid q3
          have S7 := hid (S6.out.upd0 q3)
          have hS7 := (show w7.cell? ⟨x, 5, none⟩ = some (.slice (some ⟨g, 0, none⟩) S.recs.length ca) ∧ w7.cell? ⟨x, 6, none⟩ = some (.slice (some ⟨ga, 0, none⟩) S.ats.length ca) from ⟨S7.out.cells.1.2.2.2.2.2.1, S7.out.cells.1.2.2.2.2.2.2⟩)
          have zf := S7.out.cells.2
          clear q1 q2 q3 hS6
          go_wp2_with fail
          first | (refine ⟨fun _ => hS7, ?_⟩) | (refine ⟨hS7, ?_⟩)
          (try simp only [List.getElem_toArray, List.getElem_cons_zero, List.getElem_cons_succ])
          (try go_frame)
          refine g_take0 (i := 16) rfl (by kernel_rfl) (by kernel_rfl) (by kernel_rfl) (by decide) (fun _ _ _ h => h) (Or.inl ⟨by kernel_rfl, by (intro w _; go_simp; try with_reducible rfl)⟩) (fun _ => hS7) ?_
          (try simp only [List.getElem_toArray, List.getElem_cons_zero, List.getElem_cons_succ])
          (try go_frame)
          refine g_take0 (i := 17) rfl (by kernel_rfl) (by kernel_rfl) (by kernel_rfl) (by decide) (fun _ _ _ h => h) (Or.inl ⟨by kernel_rfl, by (intro w _; go_simp; try with_reducible rfl)⟩) (fun _ => hS7) ?_
          (try simp only [List.getElem_toArray, List.getElem_cons_zero, List.getElem_cons_succ])
          (try go_frame)
          have z5 := hS7.1
          have z6 := hS7.2
          refine g_op (i := 18) (by kernel_rfl) rfl ?_
          go_wp2_with fail
          refine ⟨fun h => (Bool.false_ne_true (h.symm.trans (by kernel_rfl))).elim, ?_⟩
          (try simp only [List.getElem_toArray, List.getElem_cons_zero, List.getElem_cons_succ])
          (try go_frame)
          refine g_take0 (i := 19) rfl (by kernel_rfl) (by kernel_rfl) (by kernel_rfl) (by decide) (fun _ _ _ h => h) (Or.inl ⟨by kernel_rfl, by (intro w _; go_simp; try with_reducible rfl)⟩) ((fun h => (Bool.false_ne_true (h.symm.trans (by kernel_rfl))).elim)) ?_
          (try simp only [List.getElem_toArray, List.getElem_cons_zero, List.getElem_cons_succ])
          (try go_frame)
          refine g_take0 (i := 20) rfl (by kernel_rfl) (by kernel_rfl) (by kernel_rfl) (by decide) (fun _ _ _ h => h) (Or.inl ⟨by kernel_rfl, by (intro w _; go_simp; try with_reducible rfl)⟩) ((fun h => (Bool.false_ne_true (h.symm.trans (by kernel_rfl))).elim)) ?_
          (try simp only [List.getElem_toArray, List.getElem_cons_zero, List.getElem_cons_succ])
          (try go_frame)
          refine g_op (i := 21) (by kernel_rfl) rfl ?_
          go_wp2_with fail
          refine ⟨fun h => (Bool.false_ne_true (h.symm.trans (by kernel_rfl))).elim, ?_⟩
          (try simp only [List.getElem_toArray, List.getElem_cons_zero, List.getElem_cons_succ])
          (try go_frame)
          refine g_done (by kernel_rfl) ?_
          have u57 : Upd (fun _ => False) W5 w7 := ((Upd.refl (fun _ => False) W5).drew.trans Q3.out).trans T3.out
          have RW := StoreAt.rows (l1 := S.recs.drop ca) (l2 := S.ats.drop ca) S5.out (.of0 u57) (u57.block _ (heap_lt S5.out.head) id) S7.out.flash (Own1.upd Q1.out T3.out fun _ _ => id) (fun gb hg => .inr (Q2.out gb hg)) T1.out (fun gb hg => .inr (Nat.le_trans Q3.out.size (T2.out gb hg)))
          obtain ⟨⟨O', st9, ho9⟩, u9⟩ := RW
          have ST9 := hid st9; have HO9 := hid ho9; have U9 := hid (U5.out.then u9); have SZ5 := hid U5.out.size
          clear st9 ho9 u9 u57 z5 z6 zf
          go_wp2_with fail
          go_ret
          unfold CallPost
          rw [R.out]
          exact ⟨rfl, O', _, _, ST9.out, U9.out, fun k hk => (HO9.out k hk).imp id fun h => Nat.le_trans SZ5.out h⟩
        case neg =>
          have CK7 := hid (fun (wq : World) (u : Upd (fun _ => False) W5 wq) => (show Calls Tryz.prog 49 #[.slice (some ⟨g, 0, none⟩) 0 0] wq fun e w' => ∃ a' c', e = .returned (.slice a' 0 c') ∧ OwnS w' (.slice a' 0 c') (S.recs.drop cr) ∧ (∀ gb, (Value.slice a' 0 c').ownBlock = some gb → wq.heap.size ≤ gb) ∧ Upd (fun _ => False) wq w' from by
            have := clone_str_some wq ⟨g, 0, none⟩ 0 0 [] rfl (fun j u hj => by simp at hj) (fun u hu => by simp at hu) (by decide)
            refine this.mono fun e w' => ?_
            rintro ⟨v', e1, e2, e3, e4⟩
            obtain ⟨a', c', rfl, _, _⟩ := e2.fits
            exact ⟨a', c', e1, by rw [show S.recs.drop cr = [] from List.drop_of_length_le (hr1)]; exact e2, e3, e4⟩))
          have CK14 := hid (fun (wq : World) (u : Upd (fun _ => False) W5 wq) => (show Calls Tryz.prog 50 #[.slice (some ⟨ga, cr, none⟩) (S.ats.length - cr) (ca - cr)] wq fun e w' => ∃ a' c', e = .returned (.slice a' (S.ats.length - cr) c') ∧ OwnN w' (.slice a' (S.ats.length - cr) c') (S.ats.drop cr) ∧ (∀ gb, (Value.slice a' (S.ats.length - cr) c').ownBlock = some gb → wq.heap.size ≤ gb) ∧ Upd (fun _ => False) wq w' from by
            have := clone_int_some wq ⟨ga, cr, none⟩ (S.ats.length - cr) (ca - cr) ((S.ats.map natV).drop cr) (by simp) (drop_cells (e := 0) HCA.out hgal u) (fun u hu => natV_one S.ats u (List.mem_of_mem_drop hu)) (by clear wd1 wd2; omega)
            refine this.mono fun e w' => ?_
            rintro ⟨v', e1, e2, e3, e4⟩
            obtain ⟨a', c', rfl, _, _⟩ := e2.fits
            exact ⟨a', c', e1, by unfold OwnN; rw [List.map_drop, List.length_drop]; exact e2, e3, e4⟩))
          refine wp_region_g (fun w' => w'.cell? ⟨x, 5, none⟩ = some (.slice (some ⟨g, 0, none⟩) S.recs.length cr) ∧ w'.cell? ⟨x, 6, none⟩ = some (.slice (some ⟨ga, 0, none⟩) S.ats.length ca)) 18 (by kernel_rfl) ?_
          have hS := (show W5.drew.cell? ⟨x, 5, none⟩ = some (.slice (some ⟨g, 0, none⟩) S.recs.length cr) ∧ W5.drew.cell? ⟨x, 6, none⟩ = some (.slice (some ⟨ga, 0, none⟩) S.ats.length ca) from ⟨S5d.out.cells.1.2.2.2.2.2.1, S5d.out.cells.1.2.2.2.2.2.2⟩)
          refine g_take0 (i := 0) rfl (by kernel_rfl) (by kernel_rfl) (by kernel_rfl) (by decide) (fun _ _ _ h => h) (Or.inl ⟨by kernel_rfl, by (intro w _; go_simp; try with_reducible rfl)⟩) (fun _ => hS) ?_
          (try simp only [List.getElem_toArray, List.getElem_cons_zero, List.getElem_cons_succ])
          (try go_frame)
          refine g_take0 (i := 1) rfl (by kernel_rfl) (by kernel_rfl) (by kernel_rfl) (by decide) (fun _ _ _ h => h) (Or.inl ⟨by kernel_rfl, by (intro w _; go_simp; try with_reducible rfl)⟩) (fun _ => hS) ?_
          (try simp only [List.getElem_toArray, List.getElem_cons_zero, List.getElem_cons_succ])
          (try go_frame)
          refine g_take0 (i := 2) rfl (by kernel_rfl) (by kernel_rfl) (by kernel_rfl) (by decide) (fun _ _ _ h => h) (Or.inl ⟨by kernel_rfl, by (intro w _; go_simp; try with_reducible rfl)⟩) (fun _ => hS) ?_
          (try simp only [List.getElem_toArray, List.getElem_cons_zero, List.getElem_cons_succ])
          (try go_frame)
          refine g_take0 (i := 3) rfl (by kernel_rfl) (by kernel_rfl) (by kernel_rfl) (by decide) (fun _ _ _ h => h) (Or.inl ⟨by kernel_rfl, by (intro w _; go_simp; try with_reducible rfl)⟩) (fun _ => hS) ?_
          (try simp only [List.getElem_toArray, List.getElem_cons_zero, List.getElem_cons_succ])
          (try go_frame)
          refine g_take0 (i := 4) rfl (by kernel_rfl) (by kernel_rfl) (by kernel_rfl) (by decide) (fun _ _ _ h => h) (Or.inl ⟨by kernel_rfl, by (intro w _; go_simp; try with_reducible rfl)⟩) (fun _ => hS) ?_
          (try simp only [List.getElem_toArray, List.getElem_cons_zero, List.getElem_cons_succ])
          (try go_frame)
          refine g_take (i := 5) rfl (by kernel_rfl) (by kernel_rfl) (by kernel_rfl) (by kernel_rfl) (fun _ _ _ h => h) (Or.inl ⟨by kernel_rfl, by (intro w hSw; (try dsimp only at hSw); obtain ⟨z0, z1⟩ := hSw; go_simp; try with_reducible rfl)⟩) hS ?_
          (try simp only [List.getElem_toArray, List.getElem_cons_zero, List.getElem_cons_succ])
          (try go_frame)
          refine g_take0 (i := 6) rfl (by kernel_rfl) (by kernel_rfl) (by kernel_rfl) (by decide) (fun _ _ _ h => h) (Or.inl ⟨by kernel_rfl, by (intro w _; go_simp; try with_reducible rfl)⟩) (fun _ => hS) ?_
          (try simp only [List.getElem_toArray, List.getElem_cons_zero, List.getElem_cons_succ])
          (try go_frame)
          refine g_take0 (i := 7) rfl (by kernel_rfl) (by kernel_rfl) (by kernel_rfl) (by decide) (fun _ _ _ h => h) (Or.inl ⟨by kernel_rfl, by (intro w _; go_simp; try with_reducible rfl)⟩) (fun _ => hS) ?_
          (try simp only [List.getElem_toArray, List.getElem_cons_zero, List.getElem_cons_succ])
          (try go_frame)
          refine g_take0 (i := 9) rfl (by kernel_rfl) (by kernel_rfl) (by kernel_rfl) (by decide) (fun _ _ _ h => h) (Or.inl ⟨by kernel_rfl, by (intro w _; go_simp; try with_reducible rfl)⟩) (fun _ => hS) ?_
          (try simp only [List.getElem_toArray, List.getElem_cons_zero, List.getElem_cons_succ])
          (try go_frame)
          refine g_take0 (i := 10) rfl (by kernel_rfl) (by kernel_rfl) (by kernel_rfl) (by decide) (fun _ _ _ h => h) (Or.inl ⟨by kernel_rfl, by (intro w _; go_simp; try with_reducible rfl)⟩) (fun _ => hS) ?_
          (try simp only [List.getElem_toArray, List.getElem_cons_zero, List.getElem_cons_succ])
          (try go_frame)
          refine g_take0 (i := 11) rfl (by kernel_rfl) (by kernel_rfl) (by kernel_rfl) (by decide) (fun _ _ _ h => h) (Or.inl ⟨by kernel_rfl, by (intro w _; go_simp; try with_reducible rfl)⟩) (fun _ => hS) ?_
          (try simp only [List.getElem_toArray, List.getElem_cons_zero, List.getElem_cons_succ])
          (try go_frame)
          refine g_take (i := 12) rfl (by kernel_rfl) (by kernel_rfl) (by kernel_rfl) (by kernel_rfl) (fun _ _ _ h => h) (Or.inl ⟨by kernel_rfl, by (intro w hSw; (try dsimp only at hSw); obtain ⟨z0, z1⟩ := hSw; go_simp; try with_reducible rfl)⟩) hS ?_
          (try simp only [List.getElem_toArray, List.getElem_cons_zero, List.getElem_cons_succ])
          (try go_frame)
          refine g_take0 (i := 13) rfl (by kernel_rfl) (by kernel_rfl) (by kernel_rfl) (by decide) (fun _ _ _ h => h) (Or.inl ⟨by kernel_rfl, by (intro w _; go_simp; try with_reducible rfl)⟩) (fun _ => hS) ?_
          (try simp only [List.getElem_toArray, List.getElem_cons_zero, List.getElem_cons_succ])
          (try go_frame)
          refine g_take0 (i := 14) rfl (by kernel_rfl) (by kernel_rfl) (by kernel_rfl) (by decide) (fun _ _ _ h => h) (Or.inl ⟨by kernel_rfl, by (intro w _; go_simp; try with_reducible rfl)⟩) (fun _ => hS) ?_
          (try simp only [List.getElem_toArray, List.getElem_cons_zero, List.getElem_cons_succ])
          (try go_frame)
          refine g_op (i := 8) (by kernel_rfl) rfl ?_
          go_wp2_with fail
          refine (CK7.out _ (Upd.refl _ _).drew).mono ?_
          rintro e w6 ⟨a1, n1, rfl, q1, q2, q3⟩
          have Q1 := hid q1; have Q2 := hid q2; have Q3 := hid q3
          have S6 := hid (S5d.out.upd0 q3)
          have hS6 := (show w6.cell? ⟨x, 5, none⟩ = some (.slice (some ⟨g, 0, none⟩) S.recs.length cr) ∧ w6.cell? ⟨x, 6, none⟩ = some (.slice (some ⟨ga, 0, none⟩) S.ats.length ca) from ⟨S6.out.cells.1.2.2.2.2.2.1, S6.out.cells.1.2.2.2.2.2.2⟩)
          clear q1 q2 q3 hS
          go_wp2_with fail
          first | (refine ⟨fun _ => hS6, ?_⟩) | (refine ⟨hS6, ?_⟩)
          (try simp only [List.getElem_toArray, List.getElem_cons_zero, List.getElem_cons_succ])
          (try go_frame)
          refine g_op (i := 15) (by kernel_rfl) rfl ?_
          go_wp2_with fail
          refine (CK14.out _ ((Upd.refl (fun _ => False) W5).drew.trans Q3.out)).mono ?_
          rintro e w7 ⟨a2, n2, rfl, q1, q2, q3⟩
          have T1 := hid q1; have T2 := hid q2; have T3 := hid q3
          have S7 := hid (S6.out.upd0 q3)
          have hS7 := (show w7.cell? ⟨x, 5, none⟩ = some (.slice (some ⟨g, 0, none⟩) S.recs.length cr) ∧ w7.cell? ⟨x, 6, none⟩ = some (.slice (some ⟨ga, 0, none⟩) S.ats.length ca) from ⟨S7.out.cells.1.2.2.2.2.2.1, S7.out.cells.1.2.2.2.2.2.2⟩)
          have zf := S7.out.cells.2
          clear q1 q2 q3 hS6
          go_wp2_with fail
          first | (refine ⟨fun _ => hS7, ?_⟩) | (refine ⟨hS7, ?_⟩)
          (try simp only [List.getElem_toArray, List.getElem_cons_zero, List.getElem_cons_succ])
          (try go_frame)
          refine g_take0 (i := 16) rfl (by kernel_rfl) (by kernel_rfl) (by kernel_rfl) (by decide) (fun _ _ _ h => h) (Or.inl ⟨by kernel_rfl, by (intro w _; go_simp; try with_reducible rfl)⟩) (fun _ => hS7) ?_
          (try simp only [List.getElem_toArray, List.getElem_cons_zero, List.getElem_cons_succ])
          (try go_frame)
          refine g_take0 (i := 17) rfl (by kernel_rfl) (by kernel_rfl) (by kernel_rfl) (by decide) (fun _ _ _ h => h) (Or.inl ⟨by kernel_rfl, by (intro w _; go_simp; try with_reducible rfl)⟩) (fun _ => hS7) ?_
          (try simp only [List.getElem_toArray, List.getElem_cons_zero, List.getElem_cons_succ])
          (try go_frame)
          have z5 := hS7.1
          have z6 := hS7.2
          refine g_op (i := 18) (by kernel_rfl) rfl ?_
          go_wp2_with fail
          refine ⟨fun h => (Bool.false_ne_true (h.symm.trans (by kernel_rfl))).elim, ?_⟩
          (try simp only [List.getElem_toArray, List.getElem_cons_zero, List.getElem_cons_succ])
          (try go_frame)
          refine g_take0 (i := 19) rfl (by kernel_rfl) (by kernel_rfl) (by kernel_rfl) (by decide) (fun _ _ _ h => h) (Or.inl ⟨by kernel_rfl, by (intro w _; go_simp; try with_reducible rfl)⟩) ((fun h => (Bool.false_ne_true (h.symm.trans (by kernel_rfl))).elim)) ?_
          (try simp only [List.getElem_toArray, List.getElem_cons_zero, List.getElem_cons_succ])
          (try go_frame)
          refine g_take0 (i := 20) rfl (by kernel_rfl) (by kernel_rfl) (by kernel_rfl) (by decide) (fun _ _ _ h => h) (Or.inl ⟨by kernel_rfl, by (intro w _; go_simp; try with_reducible rfl)⟩) ((fun h => (Bool.false_ne_true (h.symm.trans (by kernel_rfl))).elim)) ?_
          (try simp only [List.getElem_toArray, List.getElem_cons_zero, List.getElem_cons_succ])
          (try go_frame)
          refine g_op (i := 21) (by kernel_rfl) rfl ?_
          go_wp2_with fail
          refine ⟨fun h => (Bool.false_ne_true (h.symm.trans (by kernel_rfl))).elim, ?_⟩
          (try simp only [List.getElem_toArray, List.getElem_cons_zero, List.getElem_cons_succ])
          (try go_frame)
          refine g_done (by kernel_rfl) ?_
          have u57 : Upd (fun _ => False) W5 w7 := ((Upd.refl (fun _ => False) W5).drew.trans Q3.out).trans T3.out
          have RW := StoreAt.rows (l1 := S.recs.drop cr) (l2 := S.ats.drop cr) S5.out (.of0 u57) (u57.block _ (heap_lt S5.out.head) id) S7.out.flash (Own1.upd Q1.out T3.out fun _ _ => id) (fun gb hg => .inr (Q2.out gb hg)) T1.out (fun gb hg => .inr (Nat.le_trans Q3.out.size (T2.out gb hg)))
          obtain ⟨⟨O', st9, ho9⟩, u9⟩ := RW
          have ST9 := hid st9; have HO9 := hid ho9; have U9 := hid (U5.out.then u9); have SZ5 := hid U5.out.size
          clear st9 ho9 u9 u57 z5 z6 zf
          go_wp2_with fail
          go_ret
          unfold CallPost
          rw [R.out]
          exact ⟨rfl, O', _, _, ST9.out, U9.out, fun k hk => (HO9.out k hk).imp id fun h => Nat.le_trans SZ5.out h⟩
      case neg =>
        by_cases hc2 : ca = m
        case pos =>
          subst hc2
          have CK7 := hid (fun (wq : World) (u : Upd (fun _ => False) W5 wq) => (show Calls Tryz.prog 49 #[.slice (some ⟨g, ca, none⟩) (S.recs.length - ca) (cr - ca)] wq fun e w' => ∃ a' c', e = .returned (.slice a' (S.recs.length - ca) c') ∧ OwnS w' (.slice a' (S.recs.length - ca) c') (S.recs.drop ca) ∧ (∀ gb, (Value.slice a' (S.recs.length - ca) c').ownBlock = some gb → wq.heap.size ≤ gb) ∧ Upd (fun _ => False) wq w' from by
            have := clone_str_some wq ⟨g, ca, none⟩ (S.recs.length - ca) (cr - ca) ((S.recs.map strV).drop ca) (by simp) (drop_cells (e := 0) HCR.out hgl u) (fun u hu => strV_one S.recs u (List.mem_of_mem_drop hu)) (by clear wd1 wd2; omega)
            refine this.mono fun e w' => ?_
            rintro ⟨v', e1, e2, e3, e4⟩
            obtain ⟨a', c', rfl, _, _⟩ := e2.fits
            exact ⟨a', c', e1, by unfold OwnS; rw [List.map_drop, List.length_drop]; exact e2, e3, e4⟩))
          have CK14 := hid (fun (wq : World) (u : Upd (fun _ => False) W5 wq) => (show Calls Tryz.prog 50 #[.slice (some ⟨ga, 0, none⟩) 0 0] wq fun e w' => ∃ a' c', e = .returned (.slice a' 0 c') ∧ OwnN w' (.slice a' 0 c') (S.ats.drop ca) ∧ (∀ gb, (Value.slice a' 0 c').ownBlock = some gb → wq.heap.size ≤ gb) ∧ Upd (fun _ => False) wq w' from by
            have := clone_int_some wq ⟨ga, 0, none⟩ 0 0 [] rfl (fun j u hj => by simp at hj) (fun u hu => by simp at hu) (by decide)
            refine this.mono fun e w' => ?_
            rintro ⟨v', e1, e2, e3, e4⟩
            obtain ⟨a', c', rfl, _, _⟩ := e2.fits
            exact ⟨a', c', e1, by rw [show S.ats.drop ca = [] from List.drop_of_length_le (hca2)]; exact e2, e3, e4⟩))
          refine wp_region_g (fun w' => w'.cell? ⟨x, 5, none⟩ = some (.slice (some ⟨g, 0, none⟩) S.recs.length cr) ∧ w'.cell? ⟨x, 6, none⟩ = some (.slice (some ⟨ga, 0, none⟩) S.ats.length ca)) 18 (by kernel_rfl) ?_
          have hS := (show W5.drew.cell? ⟨x, 5, none⟩ = some (.slice (some ⟨g, 0, none⟩) S.recs.length cr) ∧ W5.drew.cell? ⟨x, 6, none⟩ = some (.slice (some ⟨ga, 0, none⟩) S.ats.length ca) from ⟨S5d.out.cells.1.2.2.2.2.2.1, S5d.out.cells.1.2.2.2.2.2.2⟩)
          refine g_take0 (i := 0) rfl (by kernel_rfl) (by kernel_rfl) (by kernel_rfl) (by decide) (fun _ _ _ h => h) (Or.inl ⟨by kernel_rfl, by (intro w _; go_simp; try with_reducible rfl)⟩) (fun _ => hS) ?_
          (try simp only [List.getElem_toArray, List.getElem_cons_zero, List.getElem_cons_succ])
          (try go_frame)
          refine g_take0 (i := 1) rfl (by kernel_rfl) (by kernel_rfl) (by kernel_rfl) (by decide) (fun _ _ _ h => h) (Or.inl ⟨by kernel_rfl, by (intro w _; go_simp; try with_reducible rfl)⟩) (fun _ => hS) ?_
          (try simp only [List.getElem_toArray, List.getElem_cons_zero, List.getElem_cons_succ])
          (try go_frame)
          refine g_take0 (i := 2) rfl (by kernel_rfl) (by kernel_rfl) (by kernel_rfl) (by decide) (fun _ _ _ h => h) (Or.inl ⟨by kernel_rfl, by (intro w _; go_simp; try with_reducible rfl)⟩) (fun _ => hS) ?_
          (try simp only [List.getElem_toArray, List.getElem_cons_zero, List.getElem_cons_succ])
          (try go_frame)
          refine g_take0 (i := 3) rfl (by kernel_rfl) (by kernel_rfl) (by kernel_rfl) (by decide) (fun _ _ _ h => h) (Or.inl ⟨by kernel_rfl, by (intro w _; go_simp; try with_reducible rfl)⟩) (fun _ => hS) ?_
          (try simp only [List.getElem_toArray, List.getElem_cons_zero, List.getElem_cons_succ])
          (try go_frame)
          refine g_take0 (i := 4) rfl (by kernel_rfl) (by kernel_rfl) (by kernel_rfl) (by decide) (fun _ _ _ h => h) (Or.inl ⟨by kernel_rfl, by (intro w _; go_simp; try with_reducible rfl)⟩) (fun _ => hS) ?_
          (try simp only [List.getElem_toArray, List.getElem_cons_zero, List.getElem_cons_succ])
          (try go_frame)
          refine g_take (i := 5) rfl (by kernel_rfl) (by kernel_rfl) (by kernel_rfl) (by kernel_rfl) (fun _ _ _ h => h) (Or.inl ⟨by kernel_rfl, by (intro w hSw; (try dsimp only at hSw); obtain ⟨z0, z1⟩ := hSw; go_simp; try with_reducible rfl)⟩) hS ?_
          (try simp only [List.getElem_toArray, List.getElem_cons_zero, List.getElem_cons_succ])
          (try go_frame)
          refine g_take0 (i := 6) rfl (by kernel_rfl) (by kernel_rfl) (by kernel_rfl) (by decide) (fun _ _ _ h => h) (Or.inl ⟨by kernel_rfl, by (intro w _; go_simp; try with_reducible rfl)⟩) (fun _ => hS) ?_
          (try simp only [List.getElem_toArray, List.getElem_cons_zero, List.getElem_cons_succ])
          (try go_frame)
          refine g_take0 (i := 7) rfl (by kernel_rfl) (by kernel_rfl) (by kernel_rfl) (by decide) (fun _ _ _ h => h) (Or.inl ⟨by kernel_rfl, by (intro w _; go_simp; try with_reducible rfl)⟩) (fun _ => hS) ?_
          (try simp only [List.getElem_toArray, List.getElem_cons_zero, List.getElem_cons_succ])
          (try go_frame)
          refine g_take0 (i := 9) rfl (by kernel_rfl) (by kernel_rfl) (by kernel_rfl) (by decide) (fun _ _ _ h => h) (Or.inl ⟨by kernel_rfl, by (intro w _; go_simp; try with_reducible rfl)⟩) (fun _ => hS) ?_
          (try simp only [List.getElem_toArray, List.getElem_cons_zero, List.getElem_cons_succ])
          (try go_frame)
          refine g_take0 (i := 10) rfl (by kernel_rfl) (by kernel_rfl) (by kernel_rfl) (by decide) (fun _ _ _ h => h) (Or.inl ⟨by kernel_rfl, by (intro w _; go_simp; try with_reducible rfl)⟩) (fun _ => hS) ?_
          (try simp only [List.getElem_toArray, List.getElem_cons_zero, List.getElem_cons_succ])
          (try go_frame)
          refine g_take0 (i := 11) rfl (by kernel_rfl) (by kernel_rfl) (by kernel_rfl) (by decide) (fun _ _ _ h => h) (Or.inl ⟨by kernel_rfl, by (intro w _; go_simp; try with_reducible rfl)⟩) (fun _ => hS) ?_
          (try simp only [List.getElem_toArray, List.getElem_cons_zero, List.getElem_cons_succ])
          (try go_frame)
          refine g_take (i := 12) rfl (by kernel_rfl) (by kernel_rfl) (by kernel_rfl) (by kernel_rfl) (fun _ _ _ h => h) (Or.inl ⟨by kernel_rfl, by (intro w hSw; (try dsimp only at hSw); obtain ⟨z0, z1⟩ := hSw; go_simp; try with_reducible rfl)⟩) hS ?_
          (try simp only [List.getElem_toArray, List.getElem_cons_zero, List.getElem_cons_succ])
          (try go_frame)
          refine g_take0 (i := 13) rfl (by kernel_rfl) (by kernel_rfl) (by kernel_rfl) (by decide) (fun _ _ _ h => h) (Or.inl ⟨by kernel_rfl, by (intro w _; go_simp; try with_reducible rfl)⟩) (fun _ => hS) ?_
          (try simp only [List.getElem_toArray, List.getElem_cons_zero, List.getElem_cons_succ])
          (try go_frame)
          refine g_take0 (i := 14) rfl (by kernel_rfl) (by kernel_rfl) (by kernel_rfl) (by decide) (fun _ _ _ h => h) (Or.inl ⟨by kernel_rfl, by (intro w _; go_simp; try with_reducible rfl)⟩) (fun _ => hS) ?_
          (try simp only [List.getElem_toArray, List.getElem_cons_zero, List.getElem_cons_succ])
          (try go_frame)
          refine g_op (i := 8) (by kernel_rfl) rfl ?_
          go_wp2_with fail
          refine (CK7.out _ (Upd.refl _ _).drew).mono ?_
          rintro e w6 ⟨a1, n1, rfl, q1, q2, q3⟩
          have Q1 := hid q1; have Q2 := hid q2; have Q3 := hid q3
          have S6 := hid (S5d.out.upd0 q3)
          have hS6 := (show w6.cell? ⟨x, 5, none⟩ = some (.slice (some ⟨g, 0, none⟩) S.recs.length cr) ∧ w6.cell? ⟨x, 6, none⟩ = some (.slice (some ⟨ga, 0, none⟩) S.ats.length ca) from ⟨S6.out.cells.1.2.2.2.2.2.1, S6.out.cells.1.2.2.2.2.2.2⟩)
          clear q1 q2 q3 hS
          go_wp2_with fail
          first | (refine ⟨fun _ => hS6, ?_⟩) | (refine ⟨hS6, ?_⟩)
          (try simp only [List.getElem_toArray, List.getElem_cons_zero, List.getElem_cons_succ])
          (try go_frame)
          refine g_op (i := 15) (by kernel_rfl) rfl ?_
          go_wp2_with fail
          refine (CK14.out _ ((Upd.refl (fun _ => False) W5).drew.trans Q3.out)).mono ?_
          rintro e w7 ⟨a2, n2, rfl, q1, q2, q3⟩
          have T1 := hid q1; have T2 := hid q2; have T3 := hid q3
          have S7 := hid (S6.out.upd0 q3)
          have hS7 := (show w7.cell? ⟨x, 5, none⟩ = some (.slice (some ⟨g, 0, none⟩) S.recs.length cr) ∧ w7.cell? ⟨x, 6, none⟩ = some (.slice (some ⟨ga, 0, none⟩) S.ats.length ca) from ⟨S7.out.cells.1.2.2.2.2.2.1, S7.out.cells.1.2.2.2.2.2.2⟩)
          have zf := S7.out.cells.2
          clear q1 q2 q3 hS6
          go_wp2_with fail
          first | (refine ⟨fun _ => hS7, ?_⟩) | (refine ⟨hS7, ?_⟩)
          (try simp only [List.getElem_toArray, List.getElem_cons_zero, List.getElem_cons_succ])
          (try go_frame)
          refine g_take0 (i := 16) rfl (by kernel_rfl) (by kernel_rfl) (by kernel_rfl) (by decide) (fun _ _ _ h => h) (Or.inl ⟨by kernel_rfl, by (intro w _; go_simp; try with_reducible rfl)⟩) (fun _ => hS7) ?_
          (try simp only [List.getElem_toArray, List.getElem_cons_zero, List.getElem_cons_succ])
          (try go_frame)
          refine g_take0 (i := 17) rfl (by kernel_rfl) (by kernel_rfl) (by kernel_rfl) (by decide) (fun _ _ _ h => h) (Or.inl ⟨by kernel_rfl, by (intro w _; go_simp; try with_reducible rfl)⟩) (fun _ => hS7) ?_
          (try simp only [List.getElem_toArray, List.getElem_cons_zero, List.getElem_cons_succ])
          (try go_frame)
          have z5 := hS7.1
          have z6 := hS7.2
          refine g_op (i := 18) (by kernel_rfl) rfl ?_
          go_wp2_with fail
          refine ⟨fun h => (Bool.false_ne_true (h.symm.trans (by kernel_rfl))).elim, ?_⟩
          (try simp only [List.getElem_toArray, List.getElem_cons_zero, List.getElem_cons_succ])
          (try go_frame)
          refine g_take0 (i := 19) rfl (by kernel_rfl) (by kernel_rfl) (by kernel_rfl) (by decide) (fun _ _ _ h => h) (Or.inl ⟨by kernel_rfl, by (intro w _; go_simp; try with_reducible rfl)⟩) ((fun h => (Bool.false_ne_true (h.symm.trans (by kernel_rfl))).elim)) ?_
          (try simp only [List.getElem_toArray, List.getElem_cons_zero, List.getElem_cons_succ])
          (try go_frame)
          refine g_take0 (i := 20) rfl (by kernel_rfl) (by kernel_rfl) (by kernel_rfl) (by decide) (fun _ _ _ h => h) (Or.inl ⟨by kernel_rfl, by (intro w _; go_simp; try with_reducible rfl)⟩) ((fun h => (Bool.false_ne_true (h.symm.trans (by kernel_rfl))).elim)) ?_
          (try simp only [List.getElem_toArray, List.getElem_cons_zero, List.getElem_cons_succ])
          (try go_frame)
          refine g_op (i := 21) (by kernel_rfl) rfl ?_
          go_wp2_with fail
          refine ⟨fun h => (Bool.false_ne_true (h.symm.trans (by kernel_rfl))).elim, ?_⟩
          (try simp only [List.getElem_toArray, List.getElem_cons_zero, List.getElem_cons_succ])
          (try go_frame)
          refine g_done (by kernel_rfl) ?_
          have u57 : Upd (fun _ => False) W5 w7 := ((Upd.refl (fun _ => False) W5).drew.trans Q3.out).trans T3.out
          have RW := StoreAt.rows (l1 := S.recs.drop ca) (l2 := S.ats.drop ca) S5.out (.of0 u57) (u57.block _ (heap_lt S5.out.head) id) S7.out.flash (Own1.upd Q1.out T3.out fun _ _ => id) (fun gb hg => .inr (Q2.out gb hg)) T1.out (fun gb hg => .inr (Nat.le_trans Q3.out.size (T2.out gb hg)))
          obtain ⟨⟨O', st9, ho9⟩, u9⟩ := RW
          have ST9 := hid st9; have HO9 := hid ho9; have U9 := hid (U5.out.then u9); have SZ5 := hid U5.out.size
          clear st9 ho9 u9 u57 z5 z6 zf
          go_wp2_with fail
          go_ret
          unfold CallPost
          rw [R.out]
          exact ⟨rfl, O', _, _, ST9.out, U9.out, fun k hk => (HO9.out k hk).imp id fun h => Nat.le_trans SZ5.out h⟩
        case neg =>
          have CK7 := hid (fun (wq : World) (u : Upd (fun _ => False) W5 wq) => (show Calls Tryz.prog 49 #[.slice (some ⟨g, m, none⟩) (S.recs.length - m) (cr - m)] wq fun e w' => ∃ a' c', e = .returned (.slice a' (S.recs.length - m) c') ∧ OwnS w' (.slice a' (S.recs.length - m) c') (S.recs.drop m) ∧ (∀ gb, (Value.slice a' (S.recs.length - m) c').ownBlock = some gb → wq.heap.size ≤ gb) ∧ Upd (fun _ => False) wq w' from by
            have := clone_str_some wq ⟨g, m, none⟩ (S.recs.length - m) (cr - m) ((S.recs.map strV).drop m) (by simp) (drop_cells (e := 0) HCR.out hgl u) (fun u hu => strV_one S.recs u (List.mem_of_mem_drop hu)) (by clear wd1 wd2; omega)
            refine this.mono fun e w' => ?_
            rintro ⟨v', e1, e2, e3, e4⟩
            obtain ⟨a', c', rfl, _, _⟩ := e2.fits
            exact ⟨a', c', e1, by unfold OwnS; rw [List.map_drop, List.length_drop]; exact e2, e3, e4⟩))
          have CK14 := hid (fun (wq : World) (u : Upd (fun _ => False) W5 wq) => (show Calls Tryz.prog 50 #[.slice (some ⟨ga, m, none⟩) (S.ats.length - m) (ca - m)] wq fun e w' => ∃ a' c', e = .returned (.slice a' (S.ats.length - m) c') ∧ OwnN w' (.slice a' (S.ats.length - m) c') (S.ats.drop m) ∧ (∀ gb, (Value.slice a' (S.ats.length - m) c').ownBlock = some gb → wq.heap.size ≤ gb) ∧ Upd (fun _ => False) wq w' from by
            have := clone_int_some wq ⟨ga, m, none⟩ (S.ats.length - m) (ca - m) ((S.ats.map natV).drop m) (by simp) (drop_cells (e := 0) HCA.out hgal u) (fun u hu => natV_one S.ats u (List.mem_of_mem_drop hu)) (by clear wd1 wd2; omega)
            refine this.mono fun e w' => ?_
            rintro ⟨v', e1, e2, e3, e4⟩
            obtain ⟨a', c', rfl, _, _⟩ := e2.fits
            exact ⟨a', c', e1, by unfold OwnN; rw [List.map_drop, List.length_drop]; exact e2, e3, e4⟩))
          refine wp_region_g (fun w' => w'.cell? ⟨x, 5, none⟩ = some (.slice (some ⟨g, 0, none⟩) S.recs.length cr) ∧ w'.cell? ⟨x, 6, none⟩ = some (.slice (some ⟨ga, 0, none⟩) S.ats.length ca)) 18 (by kernel_rfl) ?_
          have hS := (show W5.drew.cell? ⟨x, 5, none⟩ = some (.slice (some ⟨g, 0, none⟩) S.recs.length cr) ∧ W5.drew.cell? ⟨x, 6, none⟩ = some (.slice (some ⟨ga, 0, none⟩) S.ats.length ca) from ⟨S5d.out.cells.1.2.2.2.2.2.1, S5d.out.cells.1.2.2.2.2.2.2⟩)
          refine g_take0 (i := 0) rfl (by kernel_rfl) (by kernel_rfl) (by kernel_rfl) (by decide) (fun _ _ _ h => h) (Or.inl ⟨by kernel_rfl, by (intro w _; go_simp; try with_reducible rfl)⟩) (fun _ => hS) ?_
          (try simp only [List.getElem_toArray, List.getElem_cons_zero, List.getElem_cons_succ])
          (try go_frame)
          refine g_take0 (i := 1) rfl (by kernel_rfl) (by kernel_rfl) (by kernel_rfl) (by decide) (fun _ _ _ h => h) (Or.inl ⟨by kernel_rfl, by (intro w _; go_simp; try with_reducible rfl)⟩) (fun _ => hS) ?_
          (try simp only [List.getElem_toArray, List.getElem_cons_zero, List.getElem_cons_succ])
          (try go_frame)
          refine g_take0 (i := 2) rfl (by kernel_rfl) (by kernel_rfl) (by kernel_rfl) (by decide) (fun _ _ _ h => h) (Or.inl ⟨by kernel_rfl, by (intro w _; go_simp; try with_reducible rfl)⟩) (fun _ => hS) ?_
          (try simp only [List.getElem_toArray, List.getElem_cons_zero, List.getElem_cons_succ])
          (try go_frame)
          refine g_take0 (i := 3) rfl (by kernel_rfl) (by kernel_rfl) (by kernel_rfl) (by decide) (fun _ _ _ h => h) (Or.inl ⟨by kernel_rfl, by (intro w _; go_simp; try with_reducible rfl)⟩) (fun _ => hS) ?_
          (try simp only [List.getElem_toArray, List.getElem_cons_zero, List.getElem_cons_succ])
          (try go_frame)
          refine g_take0 (i := 4) rfl (by kernel_rfl) (by kernel_rfl) (by kernel_rfl) (by decide) (fun _ _ _ h => h) (Or.inl ⟨by kernel_rfl, by (intro w _; go_simp; try with_reducible rfl)⟩) (fun _ => hS) ?_
          (try simp only [List.getElem_toArray, List.getElem_cons_zero, List.getElem_cons_succ])
          (try go_frame)
          refine g_take (i := 5) rfl (by kernel_rfl) (by kernel_rfl) (by kernel_rfl) (by kernel_rfl) (fun _ _ _ h => h) (Or.inl ⟨by kernel_rfl, by (intro w hSw; (try dsimp only at hSw); obtain ⟨z0, z1⟩ := hSw; go_simp; try with_reducible rfl)⟩) hS ?_
          (try simp only [List.getElem_toArray, List.getElem_cons_zero, List.getElem_cons_succ])
          (try go_frame)
          refine g_take0 (i := 6) rfl (by kernel_rfl) (by kernel_rfl) (by kernel_rfl) (by decide) (fun _ _ _ h => h) (Or.inl ⟨by kernel_rfl, by (intro w _; go_simp; try with_reducible rfl)⟩) (fun _ => hS) ?_
          (try simp only [List.getElem_toArray, List.getElem_cons_zero, List.getElem_cons_succ])
          (try go_frame)
          refine g_take0 (i := 7) rfl (by kernel_rfl) (by kernel_rfl) (by kernel_rfl) (by decide) (fun _ _ _ h => h) (Or.inl ⟨by kernel_rfl, by (intro w _; go_simp; try with_reducible rfl)⟩) (fun _ => hS) ?_
          (try simp only [List.getElem_toArray, List.getElem_cons_zero, List.getElem_cons_succ])
          (try go_frame)
          refine g_take0 (i := 9) rfl (by kernel_rfl) (by kernel_rfl) (by kernel_rfl) (by decide) (fun _ _ _ h => h) (Or.inl ⟨by kernel_rfl, by (intro w _; go_simp; try with_reducible rfl)⟩) (fun _ => hS) ?_
          (try simp only [List.getElem_toArray, List.getElem_cons_zero, List.getElem_cons_succ])
          (try go_frame)
          refine g_take0 (i := 10) rfl (by kernel_rfl) (by kernel_rfl) (by kernel_rfl) (by decide) (fun _ _ _ h => h) (Or.inl ⟨by kernel_rfl, by (intro w _; go_simp; try with_reducible rfl)⟩) (fun _ => hS) ?_
          (try simp only [List.getElem_toArray, List.getElem_cons_zero, List.getElem_cons_succ])
          (try go_frame)
          refine g_take0 (i := 11) rfl (by kernel_rfl) (by kernel_rfl) (by kernel_rfl) (by decide) (fun _ _ _ h => h) (Or.inl ⟨by kernel_rfl, by (intro w _; go_simp; try with_reducible rfl)⟩) (fun _ => hS) ?_
          (try simp only [List.getElem_toArray, List.getElem_cons_zero, List.getElem_cons_succ])
          (try go_frame)
          refine g_take (i := 12) rfl (by kernel_rfl) (by kernel_rfl) (by kernel_rfl) (by kernel_rfl) (fun _ _ _ h => h) (Or.inl ⟨by kernel_rfl, by (intro w hSw; (try dsimp only at hSw); obtain ⟨z0, z1⟩ := hSw; go_simp; try with_reducible rfl)⟩) hS ?_
          (try simp only [List.getElem_toArray, List.getElem_cons_zero, List.getElem_cons_succ])
          (try go_frame)
          refine g_take0 (i := 13) rfl (by kernel_rfl) (by kernel_rfl) (by kernel_rfl) (by decide) (fun _ _ _ h => h) (Or.inl ⟨by kernel_rfl, by (intro w _; go_simp; try with_reducible rfl)⟩) (fun _ => hS) ?_
          (try simp only [List.getElem_toArray, List.getElem_cons_zero, List.getElem_cons_succ])
          (try go_frame)
          refine g_take0 (i := 14) rfl (by kernel_rfl) (by kernel_rfl) (by kernel_rfl) (by decide) (fun _ _ _ h => h) (Or.inl ⟨by kernel_rfl, by (intro w _; go_simp; try with_reducible rfl)⟩) (fun _ => hS) ?_
          (try simp only [List.getElem_toArray, List.getElem_cons_zero, List.getElem_cons_succ])
          (try go_frame)
          refine g_op (i := 8) (by kernel_rfl) rfl ?_
          go_wp2_with fail
          refine (CK7.out _ (Upd.refl _ _).drew).mono ?_
          rintro e w6 ⟨a1, n1, rfl, q1, q2, q3⟩
          have Q1 := hid q1; have Q2 := hid q2; have Q3 := hid q3
          have S6 := hid (S5d.out.upd0 q3)
          have hS6 := (show w6.cell? ⟨x, 5, none⟩ = some (.slice (some ⟨g, 0, none⟩) S.recs.length cr) ∧ w6.cell? ⟨x, 6, none⟩ = some (.slice (some ⟨ga, 0, none⟩) S.ats.length ca) from ⟨S6.out.cells.1.2.2.2.2.2.1, S6.out.cells.1.2.2.2.2.2.2⟩)
          clear q1 q2 q3 hS
          go_wp2_with fail
          first | (refine ⟨fun _ => hS6, ?_⟩) | (refine ⟨hS6, ?_⟩)
          (try simp only [List.getElem_toArray, List.getElem_cons_zero, List.getElem_cons_succ])
          (try go_frame)
          refine g_op (i := 15) (by kernel_rfl) rfl ?_
          go_wp2_with fail
          refine (CK14.out _ ((Upd.refl (fun _ => False) W5).drew.trans Q3.out)).mono ?_
          rintro e w7 ⟨a2, n2, rfl, q1, q2, q3⟩
          have T1 := hid q1; have T2 := hid q2; have T3 := hid q3
          have S7 := hid (S6.out.upd0 q3)
          have hS7 := (show w7.cell? ⟨x, 5, none⟩ = some (.slice (some ⟨g, 0, none⟩) S.recs.length cr) ∧ w7.cell? ⟨x, 6, none⟩ = some (.slice (some ⟨ga, 0, none⟩) S.ats.length ca) from ⟨S7.out.cells.1.2.2.2.2.2.1, S7.out.cells.1.2.2.2.2.2.2⟩)
          have zf := S7.out.cells.2
          clear q1 q2 q3 hS6
          go_wp2_with fail
          first | (refine ⟨fun _ => hS7, ?_⟩) | (refine ⟨hS7, ?_⟩)
          (try simp only [List.getElem_toArray, List.getElem_cons_zero, List.getElem_cons_succ])
          (try go_frame)
          refine g_take0 (i := 16) rfl (by kernel_rfl) (by kernel_rfl) (by kernel_rfl) (by decide) (fun _ _ _ h => h) (Or.inl ⟨by kernel_rfl, by (intro w _; go_simp; try with_reducible rfl)⟩) (fun _ => hS7) ?_
          (try simp only [List.getElem_toArray, List.getElem_cons_zero, List.getElem_cons_succ])
          (try go_frame)
          refine g_take0 (i := 17) rfl (by kernel_rfl) (by kernel_rfl) (by kernel_rfl) (by decide) (fun _ _ _ h => h) (Or.inl ⟨by kernel_rfl, by (intro w _; go_simp; try with_reducible rfl)⟩) (fun _ => hS7) ?_
          (try simp only [List.getElem_toArray, List.getElem_cons_zero, List.getElem_cons_succ])
          (try go_frame)
          have z5 := hS7.1
          have z6 := hS7.2
          refine g_op (i := 18) (by kernel_rfl) rfl ?_
          go_wp2_with fail
          refine ⟨fun h => (Bool.false_ne_true (h.symm.trans (by kernel_rfl))).elim, ?_⟩
          (try simp only [List.getElem_toArray, List.getElem_cons_zero, List.getElem_cons_succ])
          (try go_frame)
          refine g_take0 (i := 19) rfl (by kernel_rfl) (by kernel_rfl) (by kernel_rfl) (by decide) (fun _ _ _ h => h) (Or.inl ⟨by kernel_rfl, by (intro w _; go_simp; try with_reducible rfl)⟩) ((fun h => (Bool.false_ne_true (h.symm.trans (by kernel_rfl))).elim)) ?_
          (try simp only [List.getElem_toArray, List.getElem_cons_zero, List.getElem_cons_succ])
          (try go_frame)
          refine g_take0 (i := 20) rfl (by kernel_rfl) (by kernel_rfl) (by kernel_rfl) (by decide) (fun _ _ _ h => h) (Or.inl ⟨by kernel_rfl, by (intro w _; go_simp; try with_reducible rfl)⟩) ((fun h => (Bool.false_ne_true (h.symm.trans (by kernel_rfl))).elim)) ?_
          (try simp only [List.getElem_toArray, List.getElem_cons_zero, List.getElem_cons_succ])
          (try go_frame)
          refine g_op (i := 21) (by kernel_rfl) rfl ?_
          go_wp2_with fail
          refine ⟨fun h => (Bool.false_ne_true (h.symm.trans (by kernel_rfl))).elim, ?_⟩
          (try simp only [List.getElem_toArray, List.getElem_cons_zero, List.getElem_cons_succ])
          (try go_frame)
          refine g_done (by kernel_rfl) ?_
          have u57 : Upd (fun _ => False) W5 w7 := ((Upd.refl (fun _ => False) W5).drew.trans Q3.out).trans T3.out
          have RW := StoreAt.rows (l1 := S.recs.drop m) (l2 := S.ats.drop m) S5.out (.of0 u57) (u57.block _ (heap_lt S5.out.head) id) S7.out.flash (Own1.upd Q1.out T3.out fun _ _ => id) (fun gb hg => .inr (Q2.out gb hg)) T1.out (fun gb hg => .inr (Nat.le_trans Q3.out.size (T2.out gb hg)))
          obtain ⟨⟨O', st9, ho9⟩, u9⟩ := RW
          have ST9 := hid st9; have HO9 := hid ho9; have U9 := hid (U5.out.then u9); have SZ5 := hid U5.out.size
          clear st9 ho9 u9 u57 z5 z6 zf
          go_wp2_with fail
          go_ret
          unfold CallPost
          rw [R.out]
          exact ⟨rfl, O', _, _, ST9.out, U9.out, fun k hk => (HO9.out k hk).imp id fun h => Nat.le_trans SZ5.out h⟩
end
end Go.Proofs.YtlefilfdomjkeaaGreatDoor
